/- Contracts of configs.each and configs.first, and of slices.IndexFunc at []Errno. -/
import Derived.Test.YtbmbaalidehoeaaDoorRings
import Derived.Test.YtbmbaalidehoeaaDoorSlices
namespace Go.Proofs.YtbmbaalidehoeaaDoor.K
open Go.RowKit

/-- The first number of which something is wrong: what. -/
def eachE : List Int → Int → Int → Int
  | [], _, _ => 0
  | x :: xs, a, b => if withinE x a b = 0 then eachE xs a b else withinE x a b

theorem eachE_all {xs : List Int} {a b : Int} (h : ∀ j, j < xs.length → withinE (xs[j]?.getD 0) a b = 0) : eachE xs a b = 0 := by
  induction xs with
  | nil => rfl
  | cons x xs ih =>
    have h0 := h 0 (by simp)
    simp only [List.getElem?_cons_zero, Option.getD_some] at h0
    rw [eachE, if_pos h0]
    exact ih fun j hj => by simpa using h (j + 1) (by simpa using hj)
theorem eachE_at {xs : List Int} {a b : Int} {k : Nat} (hk : k < xs.length) (h : ∀ j, j < k → withinE (xs[j]?.getD 0) a b = 0) (hn : withinE (xs[k]?.getD 0) a b ≠ 0) : eachE xs a b = withinE (xs[k]?.getD 0) a b := by
  induction xs generalizing k with
  | nil => simp at hk
  | cons x xs ih =>
    cases k with
    | zero =>
      simp only [List.getElem?_cons_zero, Option.getD_some] at hn ⊢
      rw [eachE, if_neg hn]
    | succ k =>
      have h0 := h 0 (by omega)
      simp only [List.getElem?_cons_zero, Option.getD_some] at h0
      simp only [List.getElem?_cons_succ] at hn ⊢
      rw [eachE, if_pos h0]
      exact ih (by simpa using hk) (fun j hj => by simpa using h (j + 1) (by omega)) hn

set_option maxHeartbeats 1000000 in
theorem each_any (A : Option Addr) (c : Nat) (xs : List Int) (a b : Int) (w : World) (hr : RdI w A xs) (hl : xs.length ≤ 17592186044416) :
    Calls Tryd.prog 52 #[.slice A xs.length c, .int .i64 a, .int .i64 b] w fun e w' => e = .returned (.int .i64 (eachE xs a b)) ∧ w = w' := by
  go_enter Tryd.func52, Tryd.ntmps52
  go_wp2
  go_loop [8, 9, 12] (fun _ _ i => ∃ k : Nat, k ≤ xs.length ∧ i = .int .i64 k ∧ ∀ j, j < k → withinE (xs[j]?.getD 0) a b = 0) (fun _ _ i => xs.length - (intOf i).toNat)
  case atStart => exact ⟨0, Nat.zero_le _, rfl, fun j hj => by omega⟩
  case round =>
    obtain ⟨k, hk, rfl, hf⟩ := hrel
    have HF := Lib.hid hf
    clear hf
    by_cases hlt : k < xs.length
    · obtain ⟨b1, off, rfl, hcs⟩ := hr.at_ hlt
      have hcx := hcs k hlt
      obtain ⟨x, hx⟩ : ∃ x, xs[k]?.getD 0 = x := ⟨_, rfl⟩
      rw [hx] at hcx
      have HX := Lib.hid hx
      have HC := Lib.hid hcs
      have HR := Lib.hid hr
      clear hcs hr hx
      have hW := within_any x a b w
      obtain ⟨r, hr⟩ : ∃ r, withinE x a b = r := ⟨_, rfl⟩
      rw [hr] at hW
      have HW := Lib.hid hW
      have HE := Lib.hid hr
      clear hW hr
      cases hz : (r != 0)
      all_goals
        go_wp2_with (go_at_call 39; refine (HW.out).mono ?_; rintro e w' ⟨rfl, rfl⟩)
      · have hz' : r = 0 := by simpa using hz
        have HZ := Lib.hid hz'
        clear hz'
        go_round
        case rel => exact ⟨k + 1, by omega, by go_num, fun j hj => by
          rcases Nat.lt_succ_iff_lt_or_eq.1 hj with h | rfl
          · exact HF.out j h
          · rw [HX.out, HE.out]; exact HZ.out⟩
        case measure => simp [intOf]; omega
      · have hz' : r ≠ 0 := by simpa using hz
        go_ret
        exact ⟨ret_int (by rw [eachE_at hlt HF.out (by rw [HX.out, HE.out]; exact hz'), HX.out, HE.out]), rfl⟩
    · go_wp2
      go_ret
      exact ⟨ret_int (eachE_all fun j hj => HF.out j (by omega)).symm, rfl⟩

/-! ### first -/
set_option maxHeartbeats 400000 in
theorem firstF_any (x : Int) (w : World) : Calls Tryd.prog 76 #[.int .i64 x] w fun e w' => e = .returned (.bool (x != 0)) ∧ w = w' := by
  go_enter Tryd.func76, Tryd.ntmps76
  go_wp2
  go_ret
  exact ⟨rfl, rfl⟩

set_option maxHeartbeats 1000000 in
theorem idxErr (A : Option Addr) (c : Nat) (xs : List Int) (w : World) (hr : RdI w A xs) (hl : xs.length ≤ 17592186044416) :
    Calls Tryd.prog 75 #[.slice A xs.length c, .func (.func 76) #[] #[]] w (RetIdx (fun x => x != 0) xs w) := by
  go_enter Tryd.func75, Tryd.ntmps75
  go_wp2
  go_loop [5, 8] (fun _ i => ∃ k : Nat, k ≤ xs.length ∧ i = .int .i64 k ∧ ∀ j, j < k → (xs[j]?.getD 0 != 0) = false) (fun _ i => xs.length - (intOf i).toNat)
  case atStart => exact ⟨0, Nat.zero_le _, rfl, fun j hj => by omega⟩
  case round =>
    obtain ⟨k, hk, rfl, hf⟩ := hrel
    have HF := Lib.hid hf
    clear hf
    by_cases hlt : k < xs.length
    · obtain ⟨b, off, rfl, hcs⟩ := hr.at_ hlt
      have hcx := hcs k hlt
      obtain ⟨x, hx⟩ : ∃ x, xs[k]?.getD 0 = x := ⟨_, rfl⟩
      rw [hx] at hcx
      have HX := Lib.hid hx
      have HC := Lib.hid hcs
      have HR := Lib.hid hr
      have hF := firstF_any x w
      clear hcs hr hx
      cases hp : x != 0
      all_goals
        rw [hp] at hF
        have HFc := Lib.hid hF
        have HP := Lib.hid hp
        clear hp hF
        go_wp2_with (go_at_call 76; refine (HFc.out).mono ?_; rintro e w' ⟨rfl, rfl⟩)
      · go_round
        case rel => exact ⟨k + 1, by omega, by go_num, fun j hj => by
          rcases Nat.lt_succ_iff_lt_or_eq.1 hj with h | rfl
          · exact HF.out j h
          · rw [HX.out]; exact HP.out⟩
        case measure => simp [intOf]; omega
      · go_ret
        exact ⟨_, rfl, .inr ⟨k, hlt, rfl, by rw [HX.out]; exact HP.out, HF.out⟩, rfl⟩
    · go_wp2
      go_ret
      exact ⟨_, rfl, .inl ⟨rfl, fun j hj => HF.out j (by omega)⟩, rfl⟩

/-- The first of two errors that is one. -/
def first2 (x y : Int) : Int := if x = 0 then y else x

set_option maxHeartbeats 1000000 in
theorem first_any (x y : Int) (b c : Nat) (w : World) (hx : w.cell? ⟨b, 0, none⟩ = some (.int .i64 x)) (hy : w.cell? ⟨b, 1, none⟩ = some (.int .i64 y)) :
    Calls Tryd.prog 51 #[.slice (some ⟨b, 0, none⟩) 2 c] w fun e w' => e = .returned (.int .i64 (first2 x y)) ∧ w = w' := by
  have hi : Calls Tryd.prog 75 #[.slice (some ⟨b, 0, none⟩) 2 c, .func (.func 76) #[] #[]] w fun e w' => e = .returned (.int .i64 (if x = 0 then if y = 0 then -1 else 1 else 0)) ∧ w = w' := by
    refine (idxErr (some ⟨b, 0, none⟩) c [x, y] w (fun _ => ⟨b, 0, rfl, fun j hj => ?_⟩) (by simp)).mono ?_
    · match j, hj with
      | 0, _ => simpa using hx
      | 1, _ => simpa using hy
    · rintro e w' ⟨r, rfl, h, rfl⟩
      refine ⟨ret_int ?_, rfl⟩
      rcases h with ⟨rfl, h⟩ | ⟨j, hj, rfl, hp, hf⟩
      · have h0 := h 0 (by simp)
        have h1 := h 1 (by simp)
        simp at h0 h1
        simp [h0, h1]
      · match j, hj with
        | 0, _ => simp at hp; simp [hp]
        | 1, _ =>
          have h0 := hf 0 (by omega)
          simp at h0 hp
          simp [h0, hp]
  by_cases h1 : x = 0
  · by_cases h2 : y = 0
    · rw [if_pos h1, if_pos h2] at hi
      have HI := Lib.hid hi
      have H1 := Lib.hid h1
      have H2 := Lib.hid h2
      clear hi h1 h2
      go_enter Tryd.func51, Tryd.ntmps51
      go_wp2_with (go_at_call 75; refine (HI.out).mono ?_; rintro e w' ⟨rfl, rfl⟩)
      go_ret
      exact ⟨ret_int (by rw [first2, if_pos H1.out, H2.out]), rfl⟩
    · rw [if_pos h1, if_neg h2] at hi
      have HI := Lib.hid hi
      have H1 := Lib.hid h1
      have H2 := Lib.hid h2
      clear hi h1 h2
      go_enter Tryd.func51, Tryd.ntmps51
      go_wp2_with (go_at_call 75; refine (HI.out).mono ?_; rintro e w' ⟨rfl, rfl⟩)
      go_ret
      exact ⟨ret_int (by rw [first2, if_pos H1.out]), rfl⟩
  · rw [if_neg h1] at hi
    have HI := Lib.hid hi
    have H1 := Lib.hid h1
    clear hi h1
    go_enter Tryd.func51, Tryd.ntmps51
    go_wp2_with (go_at_call 75; refine (HI.out).mono ?_; rintro e w' ⟨rfl, rfl⟩)
    go_ret
    exact ⟨ret_int (by rw [first2, if_neg H1.out]), rfl⟩
end Go.Proofs.YtbmbaalidehoeaaDoor.K
