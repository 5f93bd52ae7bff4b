/- A region that draws its order, whose operations read and whose callees make memory, but hand back values that do not hang on it: one walk, in the order of the text (after the library's walk of quiet regions, at another class of worlds). No program stands here. -/
import Derived.Test.YtbmbaalidehoeaaDoorBase
import Derived.BigQuiet
namespace Go.Proofs.YtbmbaalidehoeaaDoor.K
open Go.RowKit

/-- A world that has grown out of another one. -/
structure Grow (W : World) where
  w : World
  h : Below W.heap.size W w
instance (W : World) : Nonempty (Grow W) := ⟨⟨W, Below.refl _ _⟩⟩
theorem Grow.cell {W : World} (x : Grow W) {b o : Nat} {v : Value} (h : W.cell? ⟨b, o, none⟩ = some v) : x.w.cell? ⟨b, o, none⟩ = some v := Below.keeps x.h h
theorem Grow.blk {W : World} (x : Grow W) {g : Nat} {t : TypeId} {cs : Array Value} (h : Blk W g t cs) : Blk x.w g t cs := h.below x.h
/-- A contract that grows the world, met in such a world. -/
theorem Grow.call {W : World} (x : Grow W) {P : Program} {f : FuncId} {args : Array Value} {v : Value}
    (h : Calls P f args x.w fun e w' => e = .returned v ∧ Below x.w.heap.size x.w w') : Calls P f args x.w fun e w' => e = .returned v ∧ ∃ y : Grow W, w' = y.w :=
  h.mono fun _ w' ⟨he, hb⟩ => ⟨he, ⟨w', Below.then_ x.h hb⟩, rfl⟩
theorem Grow.same {W : World} (x : Grow W) {P : Program} {f : FuncId} {args : Array Value} {v : Value}
    (h : Calls P f args x.w fun e w' => e = .returned v ∧ x.w = w') : Calls P f args x.w fun e w' => e = .returned v ∧ ∃ y : Grow W, w' = y.w :=
  h.mono fun _ _ ⟨he, hb⟩ => ⟨he, x, hb.symm⟩
theorem Grow.drewN {W : World} (x : Grow W) {P : Program} {f : FuncId} {args : Array Value} {v : Value}
    (h : Calls P f args x.w fun e w' => e = .returned v ∧ ∃ q, w' = x.w.drewN q) : Calls P f args x.w fun e w' => e = .returned v ∧ ∃ y : Grow W, w' = y.w :=
  h.mono fun _ w' ⟨he, hb⟩ => ⟨he, ⟨w', Below.then_ x.h (below_of_drewN hb)⟩, rfl⟩

theorem grow_of {W w' : World} (h : ∃ x : Grow W, w' = x.w) : Below W.heap.size W w' := by
  obtain ⟨x, rfl⟩ := h
  exact x.h
theorem wp_region_grow {P : Program} {id : Nat} {Q : Exit → Act → World → Prop} {a : Act} {w : World} {l : List Oper} (hm : P.follows .mixedOrders = true) (hB : Region.lexB .any l.toArray = true)
    (h : wpQuiet P l.toArray (fun w' => ∃ x : Grow w, w' = x.w) (fun a' => ∀ w', (∃ x : Grow w, w' = x.w) → Q .normal a' w') l a) : (Code.region id l.toArray true).wp P Q a w :=
  wp_region_quiet (C := fun w' => ∃ x : Grow w, w' = x.w) hm hB ⟨⟨_, below_drewN (Below.refl _ w) 1⟩, rfl⟩ (by simpa using h)
end Go.Proofs.YtbmbaalidehoeaaDoor.K
