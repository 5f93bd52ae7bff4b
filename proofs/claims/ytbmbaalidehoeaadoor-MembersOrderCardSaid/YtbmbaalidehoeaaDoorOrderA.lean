/- MembersOrder: the ways together. -/
import Derived.Test.YtbmbaalidehoeaaDoorOrder
import Derived.Test.YtbmbaalidehoeaaDoorSize
namespace Go.Proofs.YtbmbaalidehoeaaDoor.K
open Go.RowKit
theorem lawOrder_any (a b c : Array Value) (ha : VwOk a) (hb : VwOk b) (hc : VwOk c) (w : World) (hs : Signs w) :
    Calls Tryd.prog 4 #[.agg a, .agg b, .agg c] w fun e w' => e = .returned (.bool true) ∧ Below w.heap.size w w' := by
  refine lawOrder_ways a b c ha hb hc w hs _ _ _ _ _ rfl rfl rfl rfl rfl ?_ (fun h k => lessB_order.trans _ _ _ h k)
  by_cases e : a = b
  · subst e
    exact .inl ⟨lessB_order.irr _, lessB_order.irr _, eqA_self _⟩
  · have h := lessB_order.total a b ha hb e
    cases h1 : lessB a b
    · rw [h1] at h
      exact .inr (.inr ⟨rfl, by simpa using h, eqA_ne e⟩)
    · exact .inr (.inl ⟨rfl, lessB_order.asymm _ _ h1, eqA_ne e⟩)
end Go.Proofs.YtbmbaalidehoeaaDoor.K
