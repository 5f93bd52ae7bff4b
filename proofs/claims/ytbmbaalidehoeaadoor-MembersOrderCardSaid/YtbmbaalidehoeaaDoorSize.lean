/- A config that came in, with the lengths of its slices bounded by the reach; a view that came in; a slice of bytes. -/
import Derived.Test.YtbmbaalidehoeaaDoorRowCfg
import Derived.Test.YtbmbaalidehoeaaDoorRowBase
import Derived.Test.YtbmbaalidehoeaaDoorVeq
import Derived.SizedLaws
namespace Go.Proofs.YtbmbaalidehoeaaDoor.K
open Go.ChangeShapes Go.WideShapes Go.RowKit Go.Deep

section
variable {H : Type} {enc : TypeId × Value → H} {P : Program} {w : World} {base : Nat} {spare : Nat → Bool} {held : Bool}
/-- What is read of a slice that is a field: its length is within reach. -/
theorem sized_field {t e : TypeId} {fs : Array Field} {fuel : Nat} {cs : List Value} {d : DataW H} {p : List MemPlace} {j : Nat} {f : Field} {A : Option Addr} {len cap : Nat} (hs : P.underlying t = some (.struct fs)) (ht : DataW.trod enc P w base spare held fuel t cs = some (d, p))
    (hj : fs[j]? = some f) (hu : P.underlying f.type = some (.slice e)) (hc : (cs.drop f.offset).take (P.cellsOf f.type) = [.slice A len cap]) (hw : ∀ n ∈ d.weights P t, n ≤ reachBytes) : len * P.bytesOf e ≤ reachBytes := by
  obtain ⟨xs, n, _, hx, hl, hxl, hg⟩ := DataW.trod_struct hs ht
  simp only [Prod.mk.injEq] at hx
  have h1 := hg j f hj
  rw [hc] at h1
  have hjs : j < xs.length := by rw [hxl]; exact (Array.getElem?_eq_some_iff.1 hj).1
  rw [List.getElem?_eq_getElem hjs] at h1
  rcases open_slice hu h1 with ⟨e0, _⟩ | ⟨a, len', cap', m, n', D, Pl, e0, _, _, _, _, hx2, _⟩
  · simp only [List.cons.injEq, Value.slice.injEq, and_true] at e0
    rw [e0.2.1]; omega
  · simp only [List.cons.injEq, Value.slice.injEq, and_true] at e0
    obtain ⟨-, rfl, rfl⟩ := e0
    have hmem : (len + (((List.range (m - len)).map fun j => D (len + j)).length)) * P.bytesOf e ∈ d.weights P t := by
      rw [hx.1]
      simp only [DataW.weights, hs]
      refine DataW.weights_mem_each (j := j) (t := f.type) (d := xs[j].1) ?_ ?_ _ ?_
      · rw [List.getElem?_map, Array.getElem?_toList, hj]; rfl
      · rw [List.getElem?_map, List.getElem?_eq_getElem hjs]; rfl
      · rw [hx2]; simp [DataW.weights, hu]
    have := hw _ hmem
    exact Nat.le_trans (Nat.mul_le_mul_right _ (Nat.le_add_right _ _)) this
end
theorem reach8 {n : Nat} (h : n * 8 ≤ reachBytes) : n ≤ 17592186044416 := by have := reachBytes_lt; omega
theorem reach24 {n : Nat} (h : n * 24 ≤ reachBytes) : n ≤ 17592186044416 := by have := reachBytes_lt; omega

set_option maxRecDepth 100000 in
/-- The lengths of a config's slices. -/
theorem cfg_sizes {H : Type} {enc : TypeId × Value → H} {W : World} {b : Nat} {sp : Nat → Bool} {held : Bool} {d : DataW H} {p : List MemPlace} (n : Int) (A1 : Option Addr) (c1 : Nat) (ps : List Int) (A2 : Option Addr) (c2 : Nat) (ss : List Int) (long : Int) (A3 : Option Addr) (c3 : Nat) (bs : List Int) (A4 : Option Addr) (c4 : Nat) (st : List Stn) (miss good fresh : Int)
    (h : DataW.Trod enc Tryd.prog W b sp held 25 (.agg #[.int .i64 n, .slice A1 ps.length c1, .slice A2 ss.length c2, .int .i64 long, .slice A3 bs.length c3, .slice A4 st.length c4, .int .i64 miss, .int .i64 good, .int .i64 fresh]) d p) (hw : ∀ n ∈ d.weights Tryd.prog 25, n ≤ reachBytes) : ps.length ≤ 17592186044416 ∧ ss.length ≤ 17592186044416 ∧ bs.length ≤ 17592186044416 ∧ st.length ≤ 17592186044416 := by
  obtain ⟨fuel, ht⟩ := h
  have i8 : Tryd.prog.bytesOf 3 = 8 := by kernel_rfl
  have i24 : Tryd.prog.bytesOf 86 = 24 := by kernel_rfl
  have ci : Tryd.prog.cellsOf 22 = 1 := by kernel_rfl
  have cst : Tryd.prog.cellsOf 23 = 1 := by kernel_rfl
  have a1 := sized_field (j := 1) Tryd.underlying25 ht rfl Tryd.underlying22 (by show List.take (Tryd.prog.cellsOf 22) _ = _; rw [ci]; rfl) hw
  have a2 := sized_field (j := 2) Tryd.underlying25 ht rfl Tryd.underlying22 (by show List.take (Tryd.prog.cellsOf 22) _ = _; rw [ci]; rfl) hw
  have a4 := sized_field (j := 4) Tryd.underlying25 ht rfl Tryd.underlying22 (by show List.take (Tryd.prog.cellsOf 22) _ = _; rw [ci]; rfl) hw
  have a5 := sized_field (j := 5) Tryd.underlying25 ht rfl Tryd.underlying23 (by show List.take (Tryd.prog.cellsOf 23) _ = _; rw [cst]; rfl) hw
  rw [i8] at a1 a2 a4
  rw [i24] at a5
  exact ⟨reach8 a1, reach8 a2, reach8 a4, reach24 a5⟩

theorem view_cells : Tryd.prog.cellsOf 32 = 42 := by kernel_rfl
theorem wf_u8 {z : Int} (h : (Lit.int .u8 z).wf = true) : 0 ≤ z ∧ z < 256 := by
  rw [Lit.wf] at h; simp [show IntKind.u8.min = 0 from rfl, show IntKind.u8.max = 255 from rfl] at h; omega
theorem wf_u16 {z : Int} (h : (Lit.int .u16 z).wf = true) : 0 ≤ z ∧ z < 65536 := by
  rw [Lit.wf] at h; simp [show IntKind.u16.min = 0 from rfl, show IntKind.u16.max = 65535 from rfl] at h; omega
theorem wf_i8 {z : Int} (h : (Lit.int .i8 z).wf = true) : -128 ≤ z ∧ z < 128 := by
  rw [Lit.wf] at h; simp [show IntKind.i8.min = -128 from rfl, show IntKind.i8.max = 127 from rfl] at h; omega
/-- Cells that read as a view are a view's. -/
theorem view_of {H : Type} {enc : TypeId × Value → H} {W : World} {b : Nat} {sp : Nat → Bool} {held : Bool} {fuel : Nat} {l : List Value} {x : DataW H × List MemPlace} (hl : l.length = 42)
    (ht : DataW.trod enc Tryd.prog W b sp held fuel 32 l = some x) : VwOk l.toArray := by
  have leaf : ∀ i, i < 42 → ∃ c m y, l[i]? = some c ∧ DataW.trod enc Tryd.prog W b sp held m (tyV i) [c] = some y := fun i hi =>
    leafAt_trod 3 (by have := List.all_eq_true.1 view_leaves i (by simpa using hi); simpa using this) ht
  have gb : ∀ i, i < 42 → tyV i = 4 → ∃ z, l.toArray[i]? = some (.bool z) := fun i hi e => by
    obtain ⟨c, m, y, hc, hy⟩ := leaf i hi
    rw [e] at hy
    obtain ⟨z, hz, _⟩ := DataW.trod_bool Tryd.underlying4 hy
    simp at hz
    exact ⟨z, by rw [List.getElem?_toArray, hc, hz]⟩
  have g8 : ∀ i, i < 42 → tyV i = 5 → ∃ z, l.toArray[i]? = some (.int .u8 z) ∧ 0 ≤ z ∧ z < 256 := fun i hi e => by
    obtain ⟨c, m, y, hc, hy⟩ := leaf i hi
    rw [e] at hy
    obtain ⟨z, hz, _, hw⟩ := DataW.trod_int Tryd.underlying5 hy
    simp at hz
    exact ⟨z, by rw [List.getElem?_toArray, hc, hz], wf_u8 hw⟩
  have g16 : ∀ i, i < 42 → tyV i = 28 → ∃ z, l.toArray[i]? = some (.int .u16 z) ∧ 0 ≤ z ∧ z < 65536 := fun i hi e => by
    obtain ⟨c, m, y, hc, hy⟩ := leaf i hi
    rw [e] at hy
    obtain ⟨z, hz, _, hw⟩ := DataW.trod_int Tryd.underlying28 hy
    simp at hz
    exact ⟨z, by rw [List.getElem?_toArray, hc, hz], wf_u16 hw⟩
  have gi : ∃ z, l.toArray[40]? = some (.int .i8 z) ∧ -128 ≤ z ∧ z < 128 := by
    obtain ⟨c, m, y, hc, hy⟩ := leaf 40 (by omega)
    rw [show tyV 40 = 30 from rfl] at hy
    obtain ⟨z, hz, _, hw⟩ := DataW.trod_int Tryd.underlying30 hy
    simp at hz
    exact ⟨z, by rw [List.getElem?_toArray, hc, hz], wf_i8 hw⟩
  refine ⟨by simpa using hl, fun i hi => ?_, fun i h1 h2 => ?_, fun i h1 h2 => ?_, ?_, ?_⟩
  · obtain ⟨z, hz⟩ := gb i (by omega) (by
      unfold tyV
      rcases hi with h | ⟨h1, h2⟩
      · rw [if_pos h]
      · rw [if_neg (by omega), if_neg (by omega), if_neg (by omega), if_pos h2])
    rw [bl_of hz]; exact hz
  · obtain ⟨z, hz, hb⟩ := g8 i (by omega) (by unfold tyV; rw [if_neg (by omega), if_pos h2])
    rw [nm_of hz]; exact ⟨hz, hb⟩
  · obtain ⟨z, hz, hb⟩ := g16 i (by omega) (by unfold tyV; rw [if_neg (by omega), if_neg (by omega), if_pos h2])
    rw [nm_of hz]; exact ⟨hz, hb⟩
  · obtain ⟨z, hz, hb⟩ := gi
    rw [nm_of hz]; exact ⟨hz, hb⟩
  · obtain ⟨z, hz, hb⟩ := g8 41 (by omega) rfl
    rw [nm_of hz]; exact ⟨hz, hb⟩
set_option maxRecDepth 100000 in
theorem open_view {H : Type} {enc : TypeId × Value → H} {W : World} {r : Reach} {base b : Nat} {sp : Nat → Bool} {held : Bool} {v : Value} {d : DataW H} {p : List MemPlace}
    (hv : Value.okWide Tryd.prog W r base 32 v) (h : DataW.Trod enc Tryd.prog W b sp held 32 v d p) : ∃ cs, v = .agg cs ∧ VwOk cs := by
  obtain ⟨l, fuel, rfl, hl, ht⟩ := open_struct Tryd.underlying32 hv h
  rw [view_cells] at hl
  exact ⟨_, rfl, view_of hl ht⟩
end Go.Proofs.YtbmbaalidehoeaaDoor.K
