/- slices.Clone and slices.Clip, at []int and []Station. -/
import Derived.Test.YtbmbaalidehoeaaDoorBase
import Derived.Test.YtbmbaalidehoeaaDoorChecked
namespace Go.Proofs.YtbmbaalidehoeaaDoor.K
open Go.RowKit

structure Stn where
  node : Int
  safe : Int
  hold : Int
def Stn.cells (s : Stn) : List Value := [.int .i64 s.node, .int .u32 s.safe, .int .i64 s.hold]
def stnCells (l : List Stn) : List Value := l.flatMap Stn.cells
theorem stnCells_length (l : List Stn) : (stnCells l).length = l.length * 3 := by
  induction l with
  | nil => rfl
  | cons a l ih => simp only [stnCells, List.flatMap_cons, List.length_append, List.length_cons, Stn.cells, List.length_nil] at *; omega
theorem stnCells_one (l : List Stn) : ∀ u ∈ stnCells l, u.oneCell' = true := by
  intro u hu
  simp only [stnCells, List.mem_flatMap, Stn.cells, List.mem_cons, List.not_mem_nil, or_false] at hu
  obtain ⟨s, _, rfl | rfl | rfl⟩ := hu <;> rfl

theorem stnCells_at {l : List Stn} {k : Nat} {s : Stn} (h : l[k]? = some s) : (stnCells l)[k * 3]? = some (.int .i64 s.node) ∧ (stnCells l)[k * 3 + 1]? = some (.int .u32 s.safe) ∧ (stnCells l)[k * 3 + 2]? = some (.int .i64 s.hold) := by
  induction l generalizing k with
  | nil => simp at h
  | cons a l ih =>
    cases k with
    | zero =>
      simp at h
      subst h
      exact ⟨rfl, rfl, rfl⟩
    | succ k =>
      have := ih (k := k) (by simpa using h)
      have e : stnCells (a :: l) = Value.int .i64 a.node :: Value.int .u32 a.safe :: Value.int .i64 a.hold :: stnCells l := rfl
      rw [e, show (k + 1) * 3 = k * 3 + 1 + 1 + 1 by omega, show k * 3 + 1 + 1 + 1 + 1 = (k * 3 + 1) + 1 + 1 + 1 by omega, show k * 3 + 1 + 1 + 1 + 2 = (k * 3 + 2) + 1 + 1 + 1 by omega]
      simpa using this
theorem RdV.stn {w : World} {A : Option Addr} {l : List Stn} (h : RdV w A (stnCells l)) {k : Nat} (hk : k < l.length) :
    ∃ b off s, A = some ⟨b, off, none⟩ ∧ l[k]? = some s ∧ w.cell? ⟨b, off + k * 3, none⟩ = some (.int .i64 s.node) ∧ w.cell? ⟨b, off + k * 3 + 1, none⟩ = some (.int .u32 s.safe) ∧ w.cell? ⟨b, off + k * 3 + 2, none⟩ = some (.int .i64 s.hold) := by
  obtain ⟨b, off, rfl, hc⟩ := h (by intro e; have := stnCells_length l; rw [e] at this; simp at this; omega)
  have hs : l[k]? = some l[k] := List.getElem?_eq_getElem hk
  obtain ⟨h0, h1, h2⟩ := stnCells_at hs
  exact ⟨b, off, l[k], rfl, hs, hc _ _ h0, hc _ _ h1, hc _ _ h2⟩

theorem info_i : (Tryd.prog.info? 3).map (fun i => (i.zero, i.size, i.bytes)) = some (some (.int .i64 0), 1, 8) := by kernel_rfl
theorem info_s : (Tryd.prog.info? 86).map (fun i => (i.zero, i.size, i.bytes)) = some (some (.agg #[.int .i64 0, .int .u32 0, .int .i64 0]), 3, 24) := by kernel_rfl

/-- A new slice of the same elements, no cell of which lay there. -/
def RetCopy (cs : List Value) (n : Nat) (w : World) (e : Ending) (w' : World) : Prop :=
  ∃ A c, e = .returned (.slice A n c) ∧ n ≤ c ∧ c ≤ maxLen ∧ RdV w' A cs ∧ (∀ a, A = some a → w.heap.size ≤ a.block) ∧ Below w.heap.size w w'

set_option maxHeartbeats 1000000 in
theorem cloneI_any (A : Option Addr) (c : Nat) (CS : List Value) (n : Nat) (w : World) (hn : CS.length = n * 1) (h1s : ∀ u ∈ CS, u.oneCell' = true) (hr : RdV w A CS) (hA : A = none → n = 0) (hl : n ≤ 4398046511104) :
    Calls Tryd.prog 57 #[.slice A n c] w (RetCopy CS n w) := by
  obtain ⟨i0, hi, hz0, hz1, hz2⟩ := info_parts info_i
  have qn : ∀ (w : World) (a : Option Addr) (n c n' c' : Nat), (binOp .eql 22 (.slice a n c) (.slice none n' c')).run Tryd.prog w = .ok (.bool a.isNone) w := fun w a n c n' c' => Lib.run_eql_slice_nil w _ _ a n c n' c' Tryd.underlying22
  cases A with
  | none =>
    obtain rfl := hA rfl
    have hn0 : CS = [] := List.eq_nil_of_length_eq_zero (by simpa using hn)
    subst hn0
    clear hA hn
    go_enter Tryd.func57, Tryd.ntmps57
    go_wp2
    go_ret
    exact ⟨none, 0, rfl, Nat.le_refl _, by unfold maxLen; omega, fun hn => absurd rfl hn, (fun a h => by cases h), Below.refl _ _⟩
  | some ad =>
    clear hA
    have HC := Lib.hid hr.cellsA
    have HN := Lib.hid hn
    have H1 := Lib.hid h1s
    clear hr hn h1s
    go_enter Tryd.func57, Tryd.ntmps57
    go_wp2_with (at_builtin; refine wpList_append_own _ rfl _ _ 22 rfl w.heap.size 3 i0 (.int .i64 0) 1 8 Tryd.underlying22 hi hz0 hz1 hz2 rfl (by decide) _ _ _ rfl (by exact World.ownsRow_lit w #[] 0 (Nat.le_refl _) (by unfold maxLen; omega) rfl) ad n c CS rfl HN.out ?c1 ?c2 ?c3 ?c4 ?c5 ?_)
    case c1 => intro j u hj; exact Below.keepsA ((Below.refl _ w).alloc (Nat.le_refl _) _) (HC.out j u hj)
    case c2 => exact H1.out
    case c3 => unfold maxLen; omega
    case c4 => omega
    case c5 => simp
    · intro v' w1 hown' hgrow _
      have hb : Below w.heap.size w w1 := ((Below.refl _ w).alloc (Nat.le_refl _) _).grown hgrow (by simp) (fun j hj => by simp [Value.ownBlock] at hj; omega)
      have HO := Lib.hid hown'
      have HG := Lib.hid hgrow
      have HB := Lib.hid hb
      clear hown' hgrow hb
      go_wp2
      go_ret
      have hown := HO.out
      obtain ⟨A', c', rfl, h1, h2⟩ := own_form hown
      exact ⟨A', c', rfl, h1, h2, RdV.of_own hown, own_fresh hown, HB.out⟩

set_option maxHeartbeats 400000 in
theorem clipI_any (A : Option Addr) (n c : Nat) (w : World) (h : n ≤ c) :
    Calls Tryd.prog 56 #[.slice A n c] w fun e w' => e = .returned (.slice A n n) ∧ w = w' := by
  go_enter Tryd.func56, Tryd.ntmps56
  go_wp2
  go_ret
  exact ⟨rfl, rfl⟩

set_option maxHeartbeats 1000000 in
theorem cloneS_any (A : Option Addr) (c : Nat) (CS : List Value) (n : Nat) (w : World) (hn : CS.length = n * 3) (h1s : ∀ u ∈ CS, u.oneCell' = true) (hr : RdV w A CS) (hA : A = none → n = 0) (hl : n ≤ 4398046511104) :
    Calls Tryd.prog 59 #[.slice A n c] w (RetCopy CS n w) := by
  obtain ⟨i0, hi, hz0, hz1, hz2⟩ := info_parts info_s
  have qn : ∀ (w : World) (a : Option Addr) (n c n' c' : Nat), (binOp .eql 23 (.slice a n c) (.slice none n' c')).run Tryd.prog w = .ok (.bool a.isNone) w := fun w a n c n' c' => Lib.run_eql_slice_nil w _ _ a n c n' c' Tryd.underlying23
  cases A with
  | none =>
    obtain rfl := hA rfl
    have hn0 : CS = [] := List.eq_nil_of_length_eq_zero (by simpa using hn)
    subst hn0
    clear hA hn
    go_enter Tryd.func59, Tryd.ntmps59
    go_wp2
    go_ret
    exact ⟨none, 0, rfl, Nat.le_refl _, by unfold maxLen; omega, fun hn => absurd rfl hn, (fun a h => by cases h), Below.refl _ _⟩
  | some ad =>
    clear hA
    have HC := Lib.hid hr.cellsA
    have HN := Lib.hid hn
    have H1 := Lib.hid h1s
    clear hr hn h1s
    go_enter Tryd.func59, Tryd.ntmps59
    go_wp2_with (at_builtin; refine wpList_append_own _ rfl _ _ 23 rfl w.heap.size 86 i0 (.agg #[.int .i64 0, .int .u32 0, .int .i64 0]) 3 24 Tryd.underlying23 hi hz0 hz1 hz2 rfl (by decide) _ _ _ rfl (by exact World.ownsRow_lit w #[] 0 (Nat.le_refl _) (by unfold maxLen; omega) rfl) ad n c CS rfl HN.out ?c1 ?c2 ?c3 ?c4 ?c5 ?_)
    case c1 => intro j u hj; exact Below.keepsA ((Below.refl _ w).alloc (Nat.le_refl _) _) (HC.out j u hj)
    case c2 => exact H1.out
    case c3 => unfold maxLen; omega
    case c4 => omega
    case c5 => simp
    · intro v' w1 hown' hgrow _
      have hb : Below w.heap.size w w1 := ((Below.refl _ w).alloc (Nat.le_refl _) _).grown hgrow (by simp) (fun j hj => by simp [Value.ownBlock] at hj; omega)
      have HO := Lib.hid hown'
      have HG := Lib.hid hgrow
      have HB := Lib.hid hb
      clear hown' hgrow hb
      go_wp2
      go_ret
      have hown := HO.out
      obtain ⟨A', c', rfl, h1, h2⟩ := own_form hown
      exact ⟨A', c', rfl, h1, h2, RdV.of_own hown, own_fresh hown, HB.out⟩

set_option maxHeartbeats 400000 in
theorem clipS_any (A : Option Addr) (n c : Nat) (w : World) (h : n ≤ c) :
    Calls Tryd.prog 58 #[.slice A n c] w fun e w' => e = .returned (.slice A n n) ∧ w = w' := by
  go_enter Tryd.func58, Tryd.ntmps58
  go_wp2
  go_ret
  exact ⟨rfl, rfl⟩

end Go.Proofs.YtbmbaalidehoeaaDoor.K
