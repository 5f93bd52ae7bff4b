/- A slice of bytes that came in. -/
import Derived.Test.YtbmbaalidehoeaaDoorSize
namespace Go.Proofs.YtbmbaalidehoeaaDoor.K
open Go.ChangeShapes Go.WideShapes Go.RowKit Go.Deep
theorem flat_u8 (xs : List Int) : (xs.map fun x : Int => [Value.int .u8 x]).flatten = xs.map (Value.int .u8) := by
  induction xs with
  | nil => rfl
  | cons x xs ih => simp only [List.map_cons, List.flatten_cons, List.singleton_append, ih]
set_option maxRecDepth 100000 in
theorem open_bytes {H : Type} {enc : TypeId × Value → H} {W : World} {r : Reach} {base b : Nat} {sp : Nat → Bool} {held : Bool} {v : Value} {d : DataW H} {p : List MemPlace}
    (hv : Value.okWide Tryd.prog W r base 33 v) (h : DataW.Trod enc Tryd.prog W b sp held 33 v d p) : ∃ (A : Option Addr) (c : Nat) (xs : List Int), v = .slice A xs.length c ∧ RdV W A (xs.map (Value.int .u8)) ∧ ∀ x ∈ xs, 0 ≤ x ∧ x < 256 := by
  obtain ⟨a0, len, cap, rfl⟩ := okWide_slice Tryd.underlying33 hv
  obtain ⟨fuel, ht⟩ := h
  have hc : Tryd.prog.cellsOf 5 = 1 := by kernel_rfl
  obtain ⟨A, c, rows, e, _, hl, hr, hrow⟩ := open_rows Tryd.underlying33 (by rw [hc]; omega) ht
  obtain ⟨xs, rfl, hw⟩ := rows_of (fun x : Int => [Value.int .u8 x]) (fun x => 0 ≤ x ∧ x < 256) fun l hl => by
    obtain ⟨_, n, y, hy⟩ := hrow l hl
    obtain ⟨z, hz, _, hwz⟩ := DataW.trod_int Tryd.underlying5 hy
    exact ⟨z, by simpa using hz, wf_u8 hwz⟩
  have hv : Value.slice a0 len cap = .slice A (xs.map fun x : Int => [Value.int .u8 x]).length c := by simpa [Value.cells] using e
  exact ⟨A, c, xs, by rw [hv, List.length_map], by rw [← flat_u8]; exact hr, hw⟩
end Go.Proofs.YtbmbaalidehoeaaDoor.K
