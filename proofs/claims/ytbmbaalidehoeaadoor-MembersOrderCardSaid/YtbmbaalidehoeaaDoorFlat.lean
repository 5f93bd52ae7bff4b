/- The leaves of a value of nested structs and arrays: what each cell of it is. No program stands here. -/
import Derived.ProofKit
import Derived.OpenShut
import Derived.Deep.Slices
import Derived.Deep.Fields
namespace Go.Proofs.YtbmbaalidehoeaaDoor.K
open Go.ChangeShapes Go.WideShapes Go.RowKit Go.Deep

/-- Of which type is the i-th cell of a value? -/
def leafAt (P : Program) : Nat → TypeId → Nat → Option TypeId
  | 0, _, _ => none
  | n + 1, t, i =>
    match P.underlying t with
    | some (.struct fs) =>
      match fs.toList.find? (fun f => decide (f.offset ≤ i) && decide (i < f.offset + P.cellsOf f.type)) with
      | some f => leafAt P n f.type (i - f.offset)
      | none => none
    | some (.array k e) => if i / P.cellsOf e < k ∧ i % P.cellsOf e < P.cellsOf e then leafAt P n e (i % P.cellsOf e) else none
    | some .bool => if i = 0 then some t else none
    | some (.int _) => if i = 0 then some t else none
    | some (.slice _) => if i = 0 then some t else none
    | _ => none

section
variable {H : Type} {enc : TypeId × Value → H} {P : Program} {w : World} {base : Nat} {spare : Nat → Bool} {held : Bool}
theorem leafAt_trod (n : Nat) : ∀ {t i u fuel : Nat} {cs : List Value} {x : DataW H × List MemPlace}, leafAt P n t i = some u → DataW.trod enc P w base spare held fuel t cs = some x →
    ∃ c m y, cs[i]? = some c ∧ DataW.trod enc P w base spare held m u [c] = some y := by
  induction n with
  | zero => intro t i u fuel cs x h; simp [leafAt] at h
  | succ n ih =>
    intro t i u fuel cs x h hx
    unfold leafAt at h
    split at h
    · rename_i fs hu
      split at h
      · rename_i f hf
        obtain ⟨xs, m, _, _, hl, hxl, hg⟩ := DataW.trod_struct hu hx
        have hm := List.mem_of_find?_eq_some hf
        have hp := List.find?_some hf
        simp only [Bool.and_eq_true, decide_eq_true_eq] at hp
        obtain ⟨j, hj, hjf⟩ := List.getElem_of_mem hm
        have hj' : fs[j]? = some f := by rw [← hjf, ← Array.getElem?_toList]; exact List.getElem?_eq_getElem hj
        have h1 := hg j f hj'
        have hjs : j < xs.length := by rw [hxl]; simpa using hj
        rw [List.getElem?_eq_getElem hjs] at h1
        obtain ⟨c, m', y, hc, hy⟩ := ih h h1
        refine ⟨c, m', y, ?_, hy⟩
        rw [List.getElem?_take] at hc
        split at hc
        · rw [List.getElem?_drop] at hc
          rw [← hc]; congr 1; omega
        · cases hc
      · cases h
    · rename_i k e hu
      split at h
      · rename_i hk
        obtain ⟨xs, m, _, _, hl, hxl, hg⟩ := DataW.trod_array hu hx
        have h1 := hg (i / P.cellsOf e) hk.1
        rw [List.getElem?_eq_getElem (by omega)] at h1
        obtain ⟨c, m', y, hc, hy⟩ := ih h h1
        refine ⟨c, m', y, ?_, hy⟩
        rw [List.getElem?_take] at hc
        split at hc
        · rw [List.getElem?_drop] at hc
          rw [← hc]; congr 1
          have := Nat.div_add_mod i (P.cellsOf e)
          rw [Nat.mul_comm] at this
          exact this.symm
        · cases hc
      · cases h
    · rename_i hu
      split at h
      · rename_i h0
        subst h0
        obtain rfl := Option.some.inj h
        obtain ⟨b, rfl, _⟩ := DataW.trod_bool hu hx
        exact ⟨_, _, _, rfl, hx⟩
      · cases h
    · rename_i k hu
      split at h
      · rename_i h0
        subst h0
        obtain rfl := Option.some.inj h
        obtain ⟨b, rfl, _⟩ := DataW.trod_int hu hx
        exact ⟨_, _, _, rfl, hx⟩
      · cases h
    · rename_i k hu
      split at h
      · rename_i h0
        subst h0
        obtain rfl := Option.some.inj h
        rcases open_slice hu hx with ⟨rfl, _⟩ | ⟨a, len, cap, m, n', D, Pl, rfl, _⟩
        · exact ⟨_, _, _, rfl, hx⟩
        · exact ⟨_, _, _, rfl, hx⟩
      · cases h
    · cases h

/-- The cells' types, all at once. -/
def leavesB (P : Program) (n : Nat) (t : TypeId) (us : List TypeId) : Bool := decide (P.cellsOf t = us.length) && (List.range us.length).all fun i => leafAt P n t i == us[i]?
theorem leavesB_at {n : Nat} {t : TypeId} {us : List TypeId} (h : leavesB P n t us = true) {i : Nat} {u : TypeId} (hi : us[i]? = some u) : leafAt P n t i = some u := by
  simp only [leavesB, Bool.and_eq_true, List.all_eq_true] at h
  have hl : i < us.length := (List.getElem?_eq_some_iff.1 hi).1
  have := h.2 i (by simpa using hl)
  rw [hi] at this
  simpa using this
theorem leaf_int {n fuel : Nat} {t u : TypeId} {us : List TypeId} {k : IntKind} {cs : List Value} {x : DataW H × List MemPlace} (h : leavesB P n t us = true) (hx : DataW.trod enc P w base spare held fuel t cs = some x)
    {i : Nat} (hi : us[i]? = some u) (hu : P.underlying u = some (.int k)) : ∃ z, cs[i]? = some (.int k z) ∧ (Lit.int k z).wf = true := by
  obtain ⟨c, m, y, hc, hy⟩ := leafAt_trod n (leavesB_at h hi) hx
  obtain ⟨z, hz, _, hw⟩ := DataW.trod_int hu hy
  simp at hz
  exact ⟨z, by rw [hc, hz], hw⟩
theorem leaf_bool {n fuel : Nat} {t u : TypeId} {us : List TypeId} {cs : List Value} {x : DataW H × List MemPlace} (h : leavesB P n t us = true) (hx : DataW.trod enc P w base spare held fuel t cs = some x)
    {i : Nat} (hi : us[i]? = some u) (hu : P.underlying u = some .bool) : ∃ z, cs[i]? = some (.bool z) := by
  obtain ⟨c, m, y, hc, hy⟩ := leafAt_trod n (leavesB_at h hi) hx
  obtain ⟨z, hz, _⟩ := DataW.trod_bool hu hy
  simp at hz
  exact ⟨z, by rw [hc, hz]⟩
theorem leaf_any {n fuel : Nat} {t u : TypeId} {us : List TypeId} {cs : List Value} {x : DataW H × List MemPlace} (h : leavesB P n t us = true) (hx : DataW.trod enc P w base spare held fuel t cs = some x)
    {i : Nat} (hi : us[i]? = some u) : ∃ c m y, cs[i]? = some c ∧ DataW.trod enc P w base spare held m u [c] = some y :=
  leafAt_trod n (leavesB_at h hi) hx
/-- A struct by value: its cells, as many as its type has. -/
theorem open_struct {r : Reach} {b0 : Nat} {t : TypeId} {fs : Array Field} {v : Value} {d : DataW H} {p : List MemPlace} (hs : P.underlying t = some (.struct fs)) (hv : Value.okWide P w r b0 t v) (h : DataW.Trod enc P w base spare held t v d p) :
    ∃ (l : List Value) (fuel : Nat), v = .agg l.toArray ∧ l.length = P.cellsOf t ∧ DataW.trod enc P w base spare held fuel t l = some (d, p) := by
  obtain ⟨cs, rfl, hsz⟩ := okWide_struct hs hv
  obtain ⟨fuel, hf⟩ := h
  exact ⟨cs.toList, fuel, by simp, by simpa using hsz, hf⟩
end
end Go.Proofs.YtbmbaalidehoeaaDoor.K
