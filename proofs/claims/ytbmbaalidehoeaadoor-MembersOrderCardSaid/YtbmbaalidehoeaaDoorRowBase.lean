/- What every row of this seat shares: the laid table read, the witness, arguments carried into a world that has grown. -/
import Derived.Test.YtbmbaalidehoeaaDoorTie
import Derived.Test.YtbmbaalidehoeaaDoorRings
import Derived.ProofKit
import Derived.OpenShut
import Derived.LaidMore
import Derived.Lay
import Derived.Carry
import Derived.SevenTiedAt
import Derived.Stop.Joined
namespace Go.Proofs.YtbmbaalidehoeaaDoor.K
open Go.ChangeShapes Go.WideShapes Go.ChangeAt Go.RowKit

theorem own : ownKnob Tryd.prog.godebug = none := by kernel_rfl
theorem laidOut : laidOutB Tryd.prog = true := by kernel_rfl
def laidS : List (String × DataW Unit) := [("sennit/rings.signs", Rows.laid_sennit_rings_signs)]

set_option maxRecDepth 100000 in
theorem signs_of_laid {W : World} (h : laidMetH Tryd.prog laidS W) : Signs W := by
  rw [MakeChecks.laidMetH_plain _ _ _ (by kernel_rfl)] at h
  obtain ⟨ps, ⟨g, t, cs, fuel, p, q, hg, ht, hv, hd, _, _⟩, _, _⟩ := h
  obtain rfl := Option.some.inj ((show Tryd.prog.globalNamed "sennit/rings.signs" = some 0 by kernel_rfl).symm.trans hg)
  obtain rfl := Option.some.inj ((show (Tryd.prog.globals[0]?).map (·.type) = some 124 by kernel_rfl).symm.trans ht)
  obtain ⟨xs, m, _, ex, _, hl, hel⟩ := DataW.trod_array Tryd.underlying124 hd
  have c5 : Tryd.prog.cellsOf 3 = 1 := by kernel_rfl
  have e3 : (xs.map (·.1)) = [.lit (.int .i64 1), .lit (.int .i64 (-1))] := (DataW.agg.inj (Prod.mk.inj ex).1).symm
  have cell : ∀ (r : Nat) (z : Int), r < 2 → ([.lit (.int .i64 1), .lit (.int .i64 (-1))] : List (DataW Unit))[r]? = some (.lit (.int .i64 z)) → W.cell? ⟨0, r, none⟩ = some (.int .i64 z) := by
    intro r z hr hz0
    have hE := hel r hr
    rw [c5, Nat.mul_one, List.getElem?_eq_getElem (by omega)] at hE
    obtain ⟨z', e1, e2, _⟩ := DataW.trod_int Tryd.underlying3 hE
    have e4 : (xs.map (·.1))[r]? = some (.lit (.int .i64 z)) := by rw [e3]; exact hz0
    rw [List.getElem?_map, List.getElem?_eq_getElem (by omega : r < xs.length), e2] at e4
    have hz : z' = z := by simpa using e4
    rw [World.var?_cell hg hv r, ← hz]
    have : cs.toList[r]? = some (.int .i64 z') := by
      have h0 : ((cs.toList.drop r).take 1)[0]? = some (.int .i64 z') := by rw [e1]; rfl
      simpa using h0
    simpa using this
  exact ⟨cell 0 1 (by omega) rfl, cell 1 (-1) (by omega) rfl⟩

theorem trodAll_below {P : Program} (hl : laidOutB P = true) {H : Type} {enc : TypeId × Value → H} {W W' : World} (hb : Below W.heap.size W W') (ts : List TypeId) :
    ∀ {vs : List Value} {ds : List (DataW H)} {ps : List MemPlace}, (∀ t ∈ ts, P.readableRec t = true ∧ t < P.types.size) →
      DataW.TrodAll enc P W 0 (fun _ => true) true ts vs ds ps → (∀ x ∈ ps, x.block < W.heap.size) →
      DataW.TrodAll enc P W' 0 (fun b => decide (b < W.heap.size)) true ts vs ds ps := by
  induction ts with
  | nil =>
    intro vs ds ps _ h _
    obtain ⟨rfl, rfl, rfl⟩ := trodAll_nil h
    exact h
  | cons t ts ih =>
    intro vs ds ps hr h hlt
    obtain ⟨v, vs, d, ds, p, q, rfl, rfl, rfl, h1, h2⟩ := trodAll_cons h
    have ht := hr t (by simp)
    exact trodAll_cons_mk (Below.trod hl ht.1 ht.2 h1 hb fun x hx => hlt x (List.mem_append_left _ hx)) (ih (fun t ht => hr t (by simp [ht])) h2 fun x hx => hlt x (List.mem_append_right _ hx))
theorem rd_of {P : Program} {ts : List TypeId} (h : (ts.all fun t => P.readableRec t && decide (t < P.types.size)) = true) : ∀ t ∈ ts, P.readableRec t = true ∧ t < P.types.size := by
  intro t ht
  have := List.all_eq_true.1 h t ht
  simpa using this
theorem okWide_array {P : Program} {w : World} {r : Reach} {base : Nat} {t : TypeId} {v : Value} {n : Nat} {e : TypeId} (ht : P.underlying t = some (.array n e)) (h : Value.okWide P w r base t v) : ∃ cs, v = .agg cs ∧ cs.size = P.cellsOf t := by
  simp only [Value.okWide, ht] at h
  obtain ⟨cs, h1, h2, _⟩ := h
  exact ⟨cs, h1, h2⟩
theorem ints_of {k : IntKind} (l : List Value) (h : ∀ i, i < l.length → ∃ z, l[i]? = some (.int k z) ∧ (Lit.int k z).wf = true) : ∃ xs : List Int, l = xs.map (Value.int k) ∧ ∀ x ∈ xs, (Lit.int k x).wf = true := by
  induction l with
  | nil => exact ⟨[], rfl, by simp⟩
  | cons a l ih =>
    obtain ⟨z, hz, wz⟩ := h 0 (by simp)
    obtain ⟨xs, rfl, hw⟩ := ih fun i hi => by simpa using h (i + 1) (by simpa using hi)
    simp at hz
    subst hz
    exact ⟨z :: xs, rfl, by intro x hx; rcases List.mem_cons.1 hx with rfl | hx; exact wz; exact hw x hx⟩

theorem list3 {α : Type} {xs : List α} (h : xs.length = 3) : ∃ a b c, xs = [a, b, c] := by
  match xs, h with
  | [a, b, c], _ => exact ⟨a, b, c, rfl⟩
/-- A small array of integers, opened. -/
theorem open_ints {P : Program} {w : World} {r : Reach} {base t e n : Nat} {k : IntKind} {v : Value} {H : Type} {enc : TypeId × Value → H} {d : DataW H} {ps : List MemPlace} {sp : Nat → Bool} {held : Bool} {b : Nat}
    (ht : P.underlying t = some (.array n e)) (he : P.underlying e = some (.int k)) (hc : P.cellsOf t = n) (hce : P.cellsOf e = 1) (h : Value.okWide P w r base t v) (hd : DataW.Trod enc P w b sp held t v d ps) :
    ∃ xs : List Int, v = .agg (xs.map (Value.int k)).toArray ∧ xs.length = n ∧ ps = [] ∧ ∀ x ∈ xs, (Lit.int k x).wf = true := by
  obtain ⟨cs, rfl, hs⟩ := okWide_array ht h
  obtain ⟨fuel, hf⟩ := hd
  obtain ⟨ys, m, _, ex, hl, hn, hel⟩ := DataW.trod_array ht hf
  have hcell : ∀ i, i < n → ∃ z, cs.toList[i]? = some (.int k z) ∧ ys[i]? = some (.lit (.int k z), []) ∧ (Lit.int k z).wf = true := by
    intro i hi
    have hE := hel i hi
    rw [hce, Nat.mul_one, List.getElem?_eq_getElem (by omega)] at hE
    obtain ⟨z, e1, e2, e3⟩ := DataW.trod_int he hE
    refine ⟨z, ?_, ?_, e3⟩
    · have h0 : ((cs.toList.drop i).take 1)[0]? = some (.int k z) := by rw [show (((Value.agg cs).cells.toList.drop i).take 1) = (cs.toList.drop i).take 1 from rfl] at e1; rw [e1]; rfl
      simpa using h0
    · rw [List.getElem?_eq_getElem (by omega), e2]
  have hcs : cs.toList.length = n := by rw [Array.length_toList, hs, hc]
  obtain ⟨xs, hx, hw⟩ := ints_of cs.toList fun i hi => by
    obtain ⟨z, h1, _, h3⟩ := hcell i (by omega)
    exact ⟨z, h1, h3⟩
  refine ⟨xs, by rw [← hx], ?_, ?_, hw⟩
  · have := congrArg List.length hx
    rw [List.length_map] at this
    omega
  · have hp : ps = ys.flatMap (·.2) := (Prod.mk.inj ex).2
    rw [hp, List.flatMap_eq_nil_iff]
    intro y hy
    obtain ⟨i, hi, rfl⟩ := List.getElem_of_mem hy
    obtain ⟨z, _, h2, _⟩ := hcell i (by omega)
    rw [List.getElem?_eq_getElem hi] at h2
    rw [Option.some.inj h2]
end Go.Proofs.YtbmbaalidehoeaaDoor.K
