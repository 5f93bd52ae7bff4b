/- Views (and offers) are equal just if their cells are. -/
import Derived.Test.YtbmbaalidehoeaaDoorChecked
import Derived.Test.YtbmbaalidehoeaaDoorView
import Derived.Test.YtbmbaalidehoeaaDoorRow
import Derived.Test.YtbmbaalidehoeaaDoorEql
namespace Go.Proofs.YtbmbaalidehoeaaDoor.K
open Go.RowKit

theorem wf8 {n : Int} (h : 0 ≤ n ∧ n < 256) : (Lit.int .u8 n).wf = true := by rw [Lit.wf]; simp [show IntKind.u8.min = 0 from rfl, show IntKind.u8.max = 255 from rfl]; omega
theorem wf16 {n : Int} (h : 0 ≤ n ∧ n < 65536) : (Lit.int .u16 n).wf = true := by rw [Lit.wf]; simp [show IntKind.u16.min = 0 from rfl, show IntKind.u16.max = 65535 from rfl]; omega
theorem wfi8 {n : Int} (h : -128 ≤ n ∧ n < 128) : (Lit.int .i8 n).wf = true := by rw [Lit.wf]; simp [show IntKind.i8.min = -128 from rfl, show IntKind.i8.max = 127 from rfl]; omega

def tyV (i : Nat) : TypeId := if i < 8 then 4 else if i < 24 then 5 else if i < 32 then 28 else if i < 40 then 4 else if i = 40 then 30 else 5
theorem view_leaves : ((List.range 42).all fun i => leafAt Tryd.prog 3 32 i == some (tyV i)) = true := by kernel_rfl
theorem view_size : (Tryd.prog.info? 32).map (·.size) = some 42 := by kernel_rfl
theorem view_flat {cs : Array Value} (h : VwOk cs) : Flat Tryd.prog 3 32 cs.toList := by
  refine ⟨by rw [Array.length_toList, h.size]; kernel_rfl, fun i v hv => ?_⟩
  have hs := h.size
  rw [Array.getElem?_toList] at hv
  have hi : i < 42 := by rw [← hs]; exact (Array.getElem?_eq_some_iff.1 hv).1
  have hl := List.all_eq_true.1 view_leaves i (by simpa using hi)
  refine ⟨tyV i, by simpa using hl, ?_⟩
  unfold tyV
  rcases Nat.lt_or_ge i 8 with g | g
  · rw [h.b i (.inl g)] at hv; rw [if_pos g, ← Option.some.inj hv]; exact .inl ⟨Tryd.underlying4, _, rfl⟩
  rw [if_neg (by omega)]
  rcases Nat.lt_or_ge i 24 with g1 | g1
  · obtain ⟨e, h1, h2⟩ := h.u8 i g g1
    rw [e] at hv; rw [if_pos g1, ← Option.some.inj hv]; exact .inr ⟨_, _, Tryd.underlying5, rfl, wf8 ⟨h1, h2⟩⟩
  rw [if_neg (by omega)]
  rcases Nat.lt_or_ge i 32 with g2 | g2
  · obtain ⟨e, h1, h2⟩ := h.u16 i g1 g2
    rw [e] at hv; rw [if_pos g2, ← Option.some.inj hv]; exact .inr ⟨_, _, Tryd.underlying28, rfl, wf16 ⟨h1, h2⟩⟩
  rw [if_neg (by omega)]
  rcases Nat.lt_or_ge i 40 with g3 | g3
  · rw [h.b i (.inr ⟨g2, g3⟩)] at hv; rw [if_pos g3, ← Option.some.inj hv]; exact .inl ⟨Tryd.underlying4, _, rfl⟩
  rw [if_neg (by omega)]
  rcases Nat.lt_or_ge i 41 with g4 | g4
  · obtain rfl : i = 40 := by omega
    obtain ⟨e, h1, h2⟩ := h.cmd
    rw [e] at hv; rw [if_pos rfl, ← Option.some.inj hv]; exact .inr ⟨_, _, Tryd.underlying30, rfl, wfi8 ⟨h1, h2⟩⟩
  · obtain rfl : i = 41 := by omega
    obtain ⟨e, h1, h2⟩ := h.mode
    rw [e] at hv; rw [if_neg (by omega), ← Option.some.inj hv]; exact .inr ⟨_, _, Tryd.underlying5, rfl, wf8 ⟨h1, h2⟩⟩
theorem view_eql {a b : Array Value} (ha : VwOk a) (hb : VwOk b) (W : World) : (binOp .eql 32 (.agg a) (.agg b)).run Tryd.prog W = .ok (.bool (eqA a b)) W :=
  flat_eql (m := 3) (by omega) (by kernel_rfl) (by kernel_rfl) (by kernel_rfl) (by kernel_rfl) (view_flat ha) (view_flat hb) W
theorem view_neq {a b : Array Value} (ha : VwOk a) (hb : VwOk b) (W : World) : (binOp .neq 32 (.agg a) (.agg b)).run Tryd.prog W = .ok (.bool (!eqA a b)) W :=
  flat_neq (m := 3) (by omega) (by kernel_rfl) (by kernel_rfl) (by kernel_rfl) (by kernel_rfl) (view_flat ha) (view_flat hb) W
theorem view_equal {a b : Array Value} (ha : VwOk a) (hb : VwOk b) (W : World) : (Op.equalIn 10000 32 (.agg a) (.agg b)).run Tryd.prog W = .ok (eqA a b) W :=
  flat_equal (m := 3) (by omega) (by kernel_rfl) (by kernel_rfl) (by kernel_rfl) (by kernel_rfl) (view_flat ha) (view_flat hb) W
end Go.Proofs.YtbmbaalidehoeaaDoor.K
