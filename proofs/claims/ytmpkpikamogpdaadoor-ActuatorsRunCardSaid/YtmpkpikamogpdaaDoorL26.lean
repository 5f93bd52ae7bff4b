/- sennitlaw26: Plain, net, order, lives. -/
import Derived.Test.YtmpkpikamogpdaaDoorOut
import Derived.Deep.RegionHeld3
import Derived.Deep.DeepCutAuto
namespace Go.Proofs.YtmpkpikamogpdaaDoor.K
open Go.RowKit

def plainC (st : List Stn) : Cfg := ⟨4, [0, 2], [0, 1], 120, [0, 0, 0, 0], st, 3, 3, 3⟩

theorem blk_rdV {w : World} {g : Nat} {t : TypeId} {cs : List Value} (h : Blk w g t cs.toArray) : RdV w (some ⟨g, 0, none⟩) cs :=
  fun _ => ⟨g, 0, rfl, fun j u hj => by rw [Nat.zero_add, h.cell j, List.getElem?_toArray]; exact hj⟩
theorem blk_rdI {w : World} {g : Nat} {t : TypeId} {xs : List Int} (h : Blk w g t (xs.map (Value.int .i64)).toArray) : RdI w (some ⟨g, 0, none⟩) xs :=
  RdV.toI fun _ => ⟨g, 0, rfl, fun j u hj => by rw [Nat.zero_add, h.cell j, List.getElem?_toArray]; exact hj⟩

set_option maxRecDepth 100000 in
set_option maxHeartbeats 2000000 in
theorem plain_any (w : World) :
    Calls Tryd.prog 35 #[] w fun e w' => ∃ A1 A2 A3, e = .returned (.agg #[.int .i64 4, .slice A1 2 2, .slice A2 2 2, .int .i64 120, .slice A3 4 4, .slice none 0 0, .int .i64 3, .int .i64 3, .int .i64 3]) ∧
      RdI w' A1 [0, 2] ∧ RdI w' A2 [0, 1] ∧ RdI w' A3 [0, 0, 0, 0] ∧ Below w.heap.size w w' := by
  go_enter Tryd.func35, Tryd.ntmps35
  go_wp2
  refine bodyPost_ret (v := .agg #[.int .i64 4, .slice (some ⟨w.heap.size + 1, 0, none⟩) 2 2, .slice (some ⟨w.heap.size + 1 + 1, 0, none⟩) 2 2, .int .i64 120, .slice (some ⟨w.heap.size + 1 + 1 + 1, 0, none⟩) 4 4, .slice none 0 0, .int .i64 3, .int .i64 3, .int .i64 3]) (by simp [results, Tryd.results35, go_sem]) rfl ⟨_, _, _, rfl, ?_, ?_, ?_, ?_⟩
  · exact blk_rdI (((Blk.new_ (w.alloc _) _ _ (by simp)).alloc _).alloc _)
  · exact blk_rdI ((Blk.new_ ((w.alloc _).alloc _) _ _ (by simp)).alloc _)
  · exact blk_rdI (Blk.new_ (((w.alloc _).alloc _).alloc _) _ _ (by simp))
  · repeat (first | (with_reducible exact Below.refl _ _) | (with_reducible refine Below.setCell ?_ (by simp) _) | (with_reducible refine Below.allocW ?_ _))

theorem plain_good (safe hold : Int) (h : 1 ≤ hold ∧ hold ≤ 100) : newE (plainC [⟨0, safe, hold⟩]) = 0 := by
  refine newE_ok fun j hj => ?_
  match j, hj with
  | 0, _ => show rule1 4 = 0; decide
  | 1, _ => show rule2 [0, 2] = 0; decide
  | 2, _ => show rule3 4 [0, 2] = 0; decide
  | 3, _ => show rule4 [0, 1] = 0; decide
  | 4, _ => show rule5 [0, 2] [0, 1] = 0; decide
  | 5, _ => show rule6 4 120 = 0; decide
  | 6, _ => show rule7 4 [0, 0, 0, 0] = 0; decide
  | 7, _ => show withinE ((1 : Nat) : Int) 0 8 = 0; decide
  | 8, _ =>
    show rule9 4 [⟨0, safe, hold⟩] = 0
    have : stnE 4 ⟨0, safe, hold⟩ = 0 := by
      have e : withinE hold 1 100 = 0 := by unfold withinE; rw [if_neg (by omega), if_neg (by omega)]
      simp [stnE, e, mustE, first2]
    simp [rule9, this]
  | 9, _ => show rule10 3 3 3 = 0; decide

set_option maxRecDepth 100000 in
set_option maxHeartbeats 2000000 in
theorem order_any (seq value pair command round : Int) (w : World) :
    Calls Tryd.prog 13 #[.int .u32 seq, .int .u32 value, .int .i64 pair, .int .i64 command, .int .i64 round] w fun e w' =>
      e = .returned (ADl.V ⟨true, 0, 2, 0, seq, value, pair, command, round⟩) ∧ Below w.heap.size w w' := by
  go_enter Tryd.func13, Tryd.ntmps13
  go_wp2
  refine bodyPost_ret (v := ADl.V ⟨true, 0, 2, 0, seq, value, pair, command, round⟩) (by simp [results, Tryd.results13, go_sem, ADl.V, ADl.cells]) rfl ⟨rfl, ?_⟩
  repeat (first | (with_reducible exact Below.refl _ _) | (with_reducible refine Below.setCell ?_ (by simp) _) | (with_reducible refine Below.allocW ?_ _))

set_option maxRecDepth 100000 in
set_option maxHeartbeats 4000000 in
theorem net_any (safe hold : Int) (w : World) (hs : Signs w) (hh : 1 ≤ hold ∧ hold ≤ 100) :
    Calls Tryd.prog 11 #[.int .u32 safe, .int .i64 hold] w fun e w' =>
      ∃ p, e = .returned (.pointer (some ⟨p, 0, none⟩)) ∧ NetAt w' p (plainC [⟨0, safe, hold⟩]) ∧ Below w.heap.size w w' := by
  have HGD := Lib.hid (plain_good safe hold hh)
  have HS := Lib.hid hs
  clear hs
  go_enter Tryd.func11, Tryd.ntmps11
  go_wp2_with (first | (go_at_call 35; refine (plain_any _).mono ?_; rintro e wq ⟨A1, A2, A3, rfl, h1, h2, h3, hbq⟩; have H1 := Lib.hid h1; have H2 := Lib.hid h2; have H3 := Lib.hid h3; have HBQ := Lib.hid hbq; clear h1 h2 h3 hbq) | (go_at_call 16; refine (new_ok 4 A1 2 [0, 2] A2 2 [0, 1] 120 A3 4 [0, 0, 0, 0] (some ⟨wq.heap.size + 1, 0, none⟩) 1 [⟨0, safe, hold⟩] 3 3 3 _ ⟨HS.out.below (Below.allocW (Below.allocW HBQ.out _) _), H1.out.below (Below.allocW (ba _ _) _), H2.out.below (Below.allocW (ba _ _) _), H3.out.below (Below.allocW (ba _ _) _), blk_rdV (Blk.new_ (wq.alloc _) _ _ (by simp)), by decide, by decide, by decide, by simp, rdI_none H1.out, rdI_none H2.out, rdI_none H3.out, by intro h; cases h⟩ HGD.out).mono ?_; rintro e wn ⟨p, rfl, hna, hpw, hbn⟩; have HNA := Lib.hid hna; have HBN := Lib.hid hbn; clear hna hbn))
  go_ret
  exact ⟨p, rfl, HNA.out, Below.then_ (Below.allocW (Below.allocW HBQ.out _) _) HBN.out⟩

end Go.Proofs.YtmpkpikamogpdaaDoor.K
