/- Contracts of the functions of package slices that configs uses, at []int and []Errno. -/
import Derived.Test.YtbmbaalidehoeaaDoorBase
import Derived.Test.YtbmbaalidehoeaaDoorChecked
import Derived.LoopTactic
namespace Go.Proofs.YtbmbaalidehoeaaDoor.K
open Go.RowKit

/-- Is x no number from 0 on and below many? -/
def notIn (many x : Int) : Bool := decide (x < 0) || decide (many ≤ x)

set_option maxHeartbeats 400000 in
/-- inside's predicate: is x less than 0, or not less than what is captured? -/
theorem insideF_any (x many : Int) (B : Nat) (w : World) (hc : w.cell? ⟨B, 0, none⟩ = some (.int .i64 many)) :
    Calls Tryd.prog 69 #[.int .i64 x, .pointer (some ⟨B, 0, none⟩)] w fun e w' => e = .returned (.bool (notIn many x)) ∧ w = w' := by
  by_cases h1 : x < 0
  · go_enter Tryd.func69, Tryd.ntmps69
    go_wp2
    go_ret
    exact ⟨by simp [notIn, h1], rfl⟩
  · go_enter Tryd.func69, Tryd.ntmps69
    go_wp2
    go_ret
    exact ⟨ret_bool (by simp [notIn]; omega), rfl⟩

set_option maxHeartbeats 1000000 in
theorem idxInside (A : Option Addr) (c : Nat) (xs : List Int) (many : Int) (B : Nat) (w : World) (hr : RdI w A xs) (hl : xs.length ≤ 17592186044416)
    (hc : w.cell? ⟨B, 0, none⟩ = some (.int .i64 many)) :
    Calls Tryd.prog 82 #[.slice A xs.length c, .func (.func 69) #[] #[.pointer (some ⟨B, 0, none⟩)]] w (RetIdx (notIn many) xs w) := by
  go_enter Tryd.func82, Tryd.ntmps82
  go_wp2
  go_loop [5, 8] (fun _ i => ∃ k : Nat, k ≤ xs.length ∧ i = .int .i64 k ∧ ∀ j, j < k → notIn many (xs[j]?.getD 0) = false) (fun _ i => xs.length - (intOf i).toNat)
  case atStart => exact ⟨0, Nat.zero_le _, rfl, fun j hj => by omega⟩
  case round =>
    obtain ⟨k, hk, rfl, hf⟩ := hrel
    have HF := Lib.hid hf
    clear hf
    by_cases hlt : k < xs.length
    · obtain ⟨b, off, rfl, hcs⟩ := hr.at_ hlt
      have hcx := hcs k hlt
      obtain ⟨x, hx⟩ : ∃ x, xs[k]?.getD 0 = x := ⟨_, rfl⟩
      rw [hx] at hcx
      have HX := Lib.hid hx
      have HC := Lib.hid hcs
      have HR := Lib.hid hr
      have hF := insideF_any x many B w hc
      clear hcs hr hx
      cases hp : notIn many x
      all_goals
        rw [hp] at hF
        have HFc := Lib.hid hF
        have HP := Lib.hid hp
        clear hp hF
        go_wp2_with (go_at_call 69; refine (HFc.out).mono ?_; rintro e w' ⟨rfl, rfl⟩)
      · go_round
        case rel => exact ⟨k + 1, by omega, by go_num, fun j hj => by
          rcases Nat.lt_succ_iff_lt_or_eq.1 hj with h | rfl
          · exact HF.out j h
          · rw [HX.out]; exact HP.out⟩
        case measure => simp [intOf]; omega
      · go_ret
        exact ⟨_, rfl, .inr ⟨k, hlt, rfl, by rw [HX.out]; exact HP.out, HF.out⟩, rfl⟩
    · go_wp2
      go_ret
      exact ⟨_, rfl, .inl ⟨rfl, fun j hj => HF.out j (by omega)⟩, rfl⟩

set_option maxHeartbeats 400000 in
theorem containsInside (A : Option Addr) (c : Nat) (xs : List Int) (many : Int) (B : Nat) (w : World) (hr : RdI w A xs) (hl : xs.length ≤ 17592186044416)
    (hc : w.cell? ⟨B, 0, none⟩ = some (.int .i64 many)) :
    Calls Tryd.prog 68 #[.slice A xs.length c, .func (.func 69) #[] #[.pointer (some ⟨B, 0, none⟩)]] w fun e w' => e = .returned (.bool (xs.any (notIn many))) ∧ w = w' := by
  go_enter Tryd.func68, Tryd.ntmps68
  go_wp2_with (go_at_call 82; refine (idxInside A c xs many B _ hr hl hc).mono ?_; rintro e w' ⟨r, rfl, hx, rfl⟩)
  go_ret
  exact ⟨ret_bool (any_of_idx hx), rfl⟩

set_option maxHeartbeats 400000 in
theorem inside_any (A : Option Addr) (c : Nat) (xs : List Int) (many : Int) (w : World) (hr : RdI w A xs) (hl : xs.length ≤ 17592186044416) :
    Calls Tryd.prog 43 #[.slice A xs.length c, .int .i64 many] w fun e w' => e = .returned (.bool (!xs.any (notIn many))) ∧ Below w.heap.size w w' := by
  go_enter Tryd.func43, Tryd.ntmps43
  go_wp2_with (go_at_call 68; refine (containsInside A c xs many w.heap.size _ (hr.below ((Below.refl _ _).alloc (Nat.le_refl _) _)) hl ?_).mono ?_; (simp); rintro e w' ⟨rfl, rfl⟩)
  go_ret
  exact ⟨rfl, (Below.refl _ _).alloc (Nat.le_refl _) _⟩

/-! ### Contains -/
set_option maxHeartbeats 1000000 in
theorem index_any (A : Option Addr) (c : Nat) (xs : List Int) (v : Int) (w : World) (hr : RdI w A xs) (hl : xs.length ≤ 17592186044416) :
    Calls Tryd.prog 74 #[.slice A xs.length c, .int .i64 v] w (RetIdx (fun x => v == x) xs w) := by
  go_enter Tryd.func74, Tryd.ntmps74
  go_wp2
  go_loop [5, 8] (fun _ i => ∃ k : Nat, k ≤ xs.length ∧ i = .int .i64 k ∧ ∀ j, j < k → (v == xs[j]?.getD 0) = false) (fun _ i => xs.length - (intOf i).toNat)
  case atStart => exact ⟨0, Nat.zero_le _, rfl, fun j hj => by omega⟩
  case round =>
    obtain ⟨k, hk, rfl, hf⟩ := hrel
    have HF := Lib.hid hf
    clear hf
    by_cases hlt : k < xs.length
    · obtain ⟨b, off, rfl, hcs⟩ := hr.at_ hlt
      have hcx := hcs k hlt
      obtain ⟨x, hx⟩ : ∃ x, xs[k]?.getD 0 = x := ⟨_, rfl⟩
      rw [hx] at hcx
      have HX := Lib.hid hx
      have HC := Lib.hid hcs
      have HR := Lib.hid hr
      clear hcs hr hx
      cases hp : (v == x)
      all_goals
        go_wp2
      · go_round
        case rel => exact ⟨k + 1, by omega, by go_num, fun j hj => by
          rcases Nat.lt_succ_iff_lt_or_eq.1 hj with h | rfl
          · exact HF.out j h
          · rw [HX.out]; exact hp⟩
        case measure => simp [intOf]; omega
      · go_ret
        exact ⟨_, rfl, .inr ⟨k, hlt, rfl, by rw [HX.out]; exact hp, HF.out⟩, rfl⟩
    · go_wp2
      go_ret
      exact ⟨_, rfl, .inl ⟨rfl, fun j hj => HF.out j (by omega)⟩, rfl⟩

set_option maxHeartbeats 400000 in
theorem contains_any (A : Option Addr) (c : Nat) (xs : List Int) (v : Int) (w : World) (hr : RdI w A xs) (hl : xs.length ≤ 17592186044416) :
    Calls Tryd.prog 48 #[.slice A xs.length c, .int .i64 v] w fun e w' => e = .returned (.bool (xs.any (fun x => v == x))) ∧ w = w' := by
  go_enter Tryd.func48, Tryd.ntmps48
  go_wp2_with (go_at_call 74; refine (index_any A c xs v _ hr hl).mono ?_; rintro e w' ⟨r, rfl, hx, rfl⟩)
  go_ret
  exact ⟨ret_bool (any_of_idx hx), rfl⟩

/-! ### IsSorted -/
set_option maxHeartbeats 400000 in
theorem less_any (a b : Int) (w : World) : Calls Tryd.prog 70 #[.int .i64 a, .int .i64 b] w fun e w' => e = .returned (.bool (decide (a < b))) ∧ w = w' := by
  go_enter Tryd.func70, Tryd.ntmps70
  go_wp2
  all_goals (go_ret; exact ⟨rfl, rfl⟩)

/-- Each but the first is not less than the one ahead of it. -/
def sortedB (xs : List Int) : Bool := (List.range (xs.length - 1)).all fun j => !decide (xs[j + 1]?.getD 0 < xs[j]?.getD 0)
theorem sortedB_of {xs : List Int} (h : ∀ j, 0 < j → j < xs.length → xs[j - 1]?.getD 0 ≤ xs[j]?.getD 0) : sortedB xs = true := by
  rw [sortedB, List.all_eq_true]
  intro j hj
  have hj' : j < xs.length - 1 := by simpa using hj
  have := h (j + 1) (by omega) (by omega)
  simpa using this
theorem sortedB_not {xs : List Int} {j : Nat} (h0 : 0 < j) (hl : j < xs.length) (h : xs[j]?.getD 0 < xs[j - 1]?.getD 0) : sortedB xs = false := by
  rw [sortedB, List.all_eq_false]
  refine ⟨j - 1, by simp; omega, ?_⟩
  rw [show j - 1 + 1 = j by omega]
  simpa using h

set_option maxHeartbeats 1000000 in
theorem isSorted_any (A : Option Addr) (c : Nat) (xs : List Int) (w : World) (hr : RdI w A xs) (hl : xs.length ≤ 17592186044416) :
    Calls Tryd.prog 44 #[.slice A xs.length c] w fun e w' => e = .returned (.bool (sortedB xs)) ∧ ∃ q, w' = w.drewN q := by
  go_enter Tryd.func44, Tryd.ntmps44
  go_wp2
  go_loopw [3] (fun i wr => (∃ q, wr = w.drewN q) ∧ ∃ k : Int, -1 ≤ k ∧ k ≤ (xs.length : Int) - 1 ∧ i = .int .i64 k ∧ ∀ j : Nat, k < j → j < xs.length → 0 < j → xs[j - 1]?.getD 0 ≤ xs[j]?.getD 0) (fun i _ => (intOf i + 1).toNat)
  case atStart => exact ⟨⟨0, rfl⟩, (xs.length : Int) - 1, by omega, by omega, by go_num, fun j hj hj' => by omega⟩
  case round =>
    obtain ⟨⟨q, rfl⟩, k, hk1, hk2, rfl, hf⟩ := hrel
    have HF := Lib.hid hf
    clear hf
    by_cases hlt : 0 < k
    · obtain ⟨n, rfl⟩ : ∃ n : Nat, k = (n : Int) + 1 := ⟨(k - 1).toNat, by omega⟩
      obtain ⟨b, off, rfl, hcs⟩ := hr.at_ (k := n + 1) (by omega)
      have hcx := hcs (n + 1) (by omega)
      have hcy := hcs n (by omega)
      obtain ⟨x, hx⟩ : ∃ x, xs[n + 1]?.getD 0 = x := ⟨_, rfl⟩
      obtain ⟨y, hy⟩ : ∃ x, xs[n]?.getD 0 = x := ⟨_, rfl⟩
      rw [hx] at hcx
      rw [hy] at hcy
      have HX := Lib.hid hx
      have HY := Lib.hid hy
      have HC := Lib.hid hcs
      have HR := Lib.hid hr
      clear hcs hr hx hy
      have e1 : (0 : Int) ≤ (n : Int) + 1 := by omega
      have e2 : (n : Int) + 1 < (xs.length : Int) := by omega
      have e3 : ((n : Int) + 1).toNat = n + 1 := by omega
      have e4 : IntKind.i64.wrap (n : Int) = n := IntWalk.i64_in _ (by omega)
      have e5 : (0 : Int) ≤ (n : Int) := by omega
      have e6 : (n : Int) < (xs.length : Int) := by omega
      go_wp2
      go_quiet ((go_at_call 70; exact quiet_add_left (less_any x y _)))
      clear e1 e2 e3 e4 e5 e6
      go_wp2
      · have hlt : x < y := by assumption
        go_ret
        exact ⟨ret_bool (sortedB_not (j := n + 1) (by omega) (by omega) (by rw [HX.out]; simpa [HY.out] using hlt)).symm, _, World.drewN_drewN ..⟩
      · have hge : y ≤ x := by assumption
        go_roundw
        case rel => exact ⟨⟨_, rfl⟩, n, by omega, by omega, by go_num, fun j hj hj' h0 => by
          rcases Nat.lt_or_ge (n + 1) j with h | h
          · exact HF.out j (by omega) hj' h0
          · obtain rfl : j = n + 1 := by omega
            simpa [HY.out, HX.out] using hge⟩
        case measure => simp [intOf]; omega
    · go_wp2
      go_ret
      exact ⟨ret_bool (sortedB_of fun j h0 hj => HF.out j (by omega) hj h0).symm, _, rfl⟩

end Go.Proofs.YtbmbaalidehoeaaDoor.K
