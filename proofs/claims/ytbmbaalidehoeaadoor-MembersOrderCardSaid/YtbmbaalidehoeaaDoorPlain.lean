/- sennitlaw19.Plain: the examples' config; a net of it. -/
import Derived.Test.YtbmbaalidehoeaaDoorNet
namespace Go.Proofs.YtbmbaalidehoeaaDoor.K
open Go.RowKit

def plain0 : Cfg := ⟨4, [0, 2], [0, 1], 120, [0, 0, 0, 0], [], 3, 3, 3⟩
theorem blk_rdI0 {w : World} {g : Nat} {t : TypeId} {xs : List Int} (h : Blk w g t (xs.map (Value.int .i64)).toArray) : RdI w (some ⟨g, 0, none⟩) xs :=
  RdV.toI fun _ => ⟨g, 0, rfl, fun j u hj => by rw [Nat.zero_add, h.cell j, List.getElem?_toArray]; exact hj⟩
set_option maxRecDepth 100000 in
set_option maxHeartbeats 2000000 in
theorem plain_any0 (w : World) :
    Calls Tryd.prog 24 #[] w fun e w' => ∃ A1 A2 A3, e = .returned (.agg #[.int .i64 4, .slice A1 2 2, .slice A2 2 2, .int .i64 120, .slice A3 4 4, .slice none 0 0, .int .i64 3, .int .i64 3, .int .i64 3]) ∧
      RdI w' A1 [0, 2] ∧ RdI w' A2 [0, 1] ∧ RdI w' A3 [0, 0, 0, 0] ∧ Below w.heap.size w w' := by
  go_enter Tryd.func24, Tryd.ntmps24
  go_wp2
  refine bodyPost_ret (v := .agg #[.int .i64 4, .slice (some ⟨w.heap.size + 1, 0, none⟩) 2 2, .slice (some ⟨w.heap.size + 1 + 1, 0, none⟩) 2 2, .int .i64 120, .slice (some ⟨w.heap.size + 1 + 1 + 1, 0, none⟩) 4 4, .slice none 0 0, .int .i64 3, .int .i64 3, .int .i64 3]) (by simp [results, Tryd.results24, go_sem]) rfl ⟨_, _, _, rfl, ?_, ?_, ?_, ?_⟩
  · exact blk_rdI0 (((Blk.new_ (w.alloc _) _ _ (by simp)).alloc _).alloc _)
  · exact blk_rdI0 ((Blk.new_ ((w.alloc _).alloc _) _ _ (by simp)).alloc _)
  · exact blk_rdI0 (Blk.new_ (((w.alloc _).alloc _).alloc _) _ _ (by simp))
  · repeat (first | (with_reducible exact Below.refl _ _) | (with_reducible refine Below.setCell ?_ (by simp) _) | (with_reducible refine Below.allocW ?_ _))
theorem plain0_good : newE plain0 = 0 := by
  refine newE_ok fun j hj => ?_
  match j, hj with
  | 0, _ => show rule1 4 = 0; decide
  | 1, _ => show rule2 [0, 2] = 0; decide
  | 2, _ => show rule3 4 [0, 2] = 0; decide
  | 3, _ => show rule4 [0, 1] = 0; decide
  | 4, _ => show rule5 [0, 2] [0, 1] = 0; decide
  | 5, _ => show rule6 4 120 = 0; decide
  | 6, _ => show rule7 4 [0, 0, 0, 0] = 0; decide
  | 7, _ => show withinE ((0 : Nat) : Int) 0 8 = 0; decide
  | 8, _ => show rule9 4 [] = 0; rfl
  | 9, _ => show rule10 3 3 3 = 0; decide
/-- configs.New of the examples' config. -/
theorem plain_new (A1 A2 A3 : Option Addr) (w : World) (hs : Signs w) (h1 : RdI w A1 [0, 2]) (h2 : RdI w A2 [0, 1]) (h3 : RdI w A3 [0, 0, 0, 0]) :
    Calls Tryd.prog 7 #[.agg #[.int .i64 4, .slice A1 2 2, .slice A2 2 2, .int .i64 120, .slice A3 4 4, .slice none 0 0, .int .i64 3, .int .i64 3, .int .i64 3]] w fun e w' => ∃ p, e = .returned (.tuple #[.pointer (some ⟨p, 0, none⟩), .int .i64 0]) ∧ NetAt w' p plain0 ∧ Below w.heap.size w w' := by
  refine (new_ok 4 A1 2 [0, 2] A2 2 [0, 1] 120 A3 4 [0, 0, 0, 0] none 0 [] 3 3 3 _ ⟨hs, h1, h2, h3, fun h => absurd rfl h, by decide, by decide, by decide, by decide, rdI_none h1, rdI_none h2, rdI_none h3, fun _ => rfl⟩ plain0_good).mono ?_
  rintro e wn ⟨p, rfl, hna, hpw, hbn⟩
  exact ⟨p, rfl, hna, hbn⟩
end Go.Proofs.YtbmbaalidehoeaaDoor.K
