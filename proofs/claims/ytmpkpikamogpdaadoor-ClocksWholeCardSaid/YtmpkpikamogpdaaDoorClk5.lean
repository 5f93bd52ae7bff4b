/- sennitlaw06: lives, Net. -/
import Derived.Test.YtmpkpikamogpdaaDoorClk4
import Derived.Test.YtmpkpikamogpdaaDoorRef4c
namespace Go.Proofs.YtmpkpikamogpdaaDoor.K
open Go.RowKit

def small6 : Cfg := ⟨4, [0, 2], [0, 1, 1], 120, [0, 0, 0, 0], [], 3, 3, 3⟩
theorem small6_good : newE small6 = 0 := by
  refine newE_ok fun j hj => ?_
  match j, hj with
  | 0, _ => show rule1 4 = 0; decide
  | 1, _ => show rule2 [0, 2] = 0; decide
  | 2, _ => show rule3 4 [0, 2] = 0; decide
  | 3, _ => show rule4 [0, 1, 1] = 0; decide
  | 4, _ => show rule5 [0, 2] [0, 1, 1] = 0; decide
  | 5, _ => show rule6 4 120 = 0; decide
  | 6, _ => show rule7 4 [0, 0, 0, 0] = 0; decide
  | 7, _ => show withinE ((0 : Nat) : Int) 0 8 = 0; decide
  | 8, _ => rfl
  | 9, _ => show rule10 3 3 3 = 0; decide

set_option maxRecDepth 100000 in
set_option maxHeartbeats 8000000 in
theorem lives6_any (w : World) (hs : Signs w) :
    Calls Tryd.prog 24 #[] w fun e w' => e = .returned (.bool true) ∧ Below w.heap.size w w' := by
  have HS := Lib.hid hs
  clear hs
  go_enter Tryd.func24, Tryd.ntmps24
  go_wp2_with fail
  refine gen_world (fun V => Hid (RdI V (some ⟨w.heap.size, 0, none⟩) [0, 2]) ∧ Hid (RdI V (some ⟨w.heap.size + 1, 0, none⟩) [0, 1, 1]) ∧ Hid (RdI V (some ⟨w.heap.size + 1 + 1, 0, none⟩) [0, 0, 0, 0]) ∧ Hid (Below w.heap.size w V))
    ⟨Lib.hid (blk_rdI' (((Blk.new_ w _ _ rfl).alloc _).alloc _)), Lib.hid (blk_rdI' ((Blk.new_ (w.alloc _) _ _ (by simp)).alloc _)), Lib.hid (blk_rdI' (Blk.new_ ((w.alloc _).alloc _) _ _ (by simp))), Lib.hid (Below.allocW (Below.allocW (ba _ _) _) _)⟩ ?_
  rintro V ⟨R1, R2, R3, HV⟩
  go_at_call 16
  refine (new_ok 4 (some ⟨w.heap.size, 0, none⟩) 2 [0, 2] (some ⟨w.heap.size + 1, 0, none⟩) 3 [0, 1, 1] 120 (some ⟨w.heap.size + 1 + 1, 0, none⟩) 4 [0, 0, 0, 0] none 0 [] 3 3 3 V ⟨HS.out.below HV.out, R1.out, R2.out, R3.out, fun h => absurd rfl h, by decide, by decide, by decide, by decide, by (intro h; cases h), by (intro h; cases h), by (intro h; cases h), fun _ => rfl⟩ small6_good).mono ?_
  rintro e wn ⟨p, rfl, hna, _, hbn⟩
  have NA : Hid (NetAt wn p small6) := Lib.hid hna
  have HN := Lib.hid (Below.then_ HV.out hbn)
  clear hna hbn R1 R2 R3 HV
  go_wp2_with fail
  have HOF := Lib.hid (of_any p small6 500 wn NA.out)
  rw [show (tOf small6 500).V = .agg #[.int .i64 1, .int .i64 1, .int .i64 20] from rfl, show eOf 500 = 0 from rfl] at HOF
  go_at_call 25
  refine (HOF.out).mono ?_
  rintro e w2 ⟨rfl, hb2⟩
  go_wp2_with fail
  refine gen_world (fun W => Hid (NetAt W p small6) ∧ Hid (Blk W w2.heap.size 64 #[.int .i64 1, .int .i64 1, .int .i64 20]) ∧ Hid (Below w.heap.size w W)) ⟨Lib.hid ((NA.out.below hb2).below (ba _ _)), Lib.hid (Blk.new_ w2 _ _ rfl), Lib.hid (Below.allocW (Below.then_ HN.out hb2) _)⟩ ?_
  obtain ⟨T, eT⟩ : ∃ T, w2.heap.size = T := ⟨_, rfl⟩
  rw [eT]
  rintro W ⟨NW, KT, HW⟩
  clear NA HN HOF hb2
  go_at_call 32
  refine (clkNew_any p small6 W NW.out).mono ?_
  rintro e w3 ⟨q, rfl, rfl⟩
  go_wp2_with fail
  refine gen_world (fun V => Hid (Blk V W.heap.size 93 (Ck.cells p ⟨0, 0, 0, 0⟩)) ∧ Hid (Below W.heap.size W V)) ⟨Lib.hid (Blk.new_ (W.drewN q) _ _ rfl), Lib.hid ((below_drewN (Below.refl _ W) q).alloc (Nat.le_refl _) _)⟩ ?_
  rintro V1 ⟨K1, B1⟩
  have t1 : tickS small6 119 true ⟨0, 0, 0, 0⟩ = ⟨0, 0, 0, 0⟩ := rfl
  have t2 : tickS small6 120 true ⟨0, 0, 0, 0⟩ = ⟨1, 0, 1, 0⟩ := rfl
  have t3 : tickS small6 7 false ⟨1, 0, 1, 0⟩ = ⟨1, 0, 1, 1⟩ := rfl
  have T1 := Lib.hid t1
  have T2 := Lib.hid t2
  have T3 := Lib.hid t3
  clear t1 t2 t3
  go_at_call 33
  refine (tick_any p W.heap.size small6 119 true ⟨0, 0, 0, 0⟩ W V1 NW.out B1.out (Nat.le_refl _) K1.out (.inl rfl) (by decide)).mono ?_
  rw [T1.out]
  rintro e w4 ⟨rfl, k4, g4⟩
  rw [show tickV ⟨0, 0, 0, 0⟩ = .tuple #[.agg #[.int .i64 0, .int .i64 0, .int .i64 0], .bool false] from rfl]
  go_wp2_with fail
  refine gen_world (fun V => Hid (Blk V W.heap.size 93 (Ck.cells p ⟨0, 0, 0, 0⟩)) ∧ Hid (Below W.heap.size W V)) ⟨Lib.hid (k4.alloc _), Lib.hid ((below_only B1.out g4 B1.out.size (Nat.le_refl _)).alloc (Nat.le_trans B1.out.size g4.size) _)⟩ ?_
  rintro V2 ⟨K2, B2⟩
  clear k4 g4
  go_at_call 33
  refine (tick_any p W.heap.size small6 120 true ⟨0, 0, 0, 0⟩ W V2 NW.out B2.out (Nat.le_refl _) K2.out (.inl rfl) (by decide)).mono ?_
  rw [T2.out]
  rintro e w5 ⟨rfl, k5, g5⟩
  rw [show tickV ⟨1, 0, 1, 0⟩ = .tuple #[.agg #[.int .i64 0, .int .i64 1, .int .i64 0], .bool true] from rfl]
  go_wp2_with fail
  have hs5 : W.heap.size < w5.heap.size := k5.lt
  refine gen_world (fun V => Hid (Blk V W.heap.size 93 (Ck.cells p ⟨1, 0, 1, 0⟩)) ∧ Hid (Blk V w5.heap.size 64 #[.int .i64 0, .int .i64 1, .int .i64 0]) ∧ Hid (Below W.heap.size W V)) ⟨Lib.hid (k5.alloc _), Lib.hid (Blk.new_ w5 _ _ rfl), Lib.hid ((below_only B2.out g5 B2.out.size (Nat.le_refl _)).alloc (Nat.le_trans B2.out.size g5.size) _)⟩ ?_
  obtain ⟨X, eX⟩ : ∃ X, w5.heap.size = X := ⟨_, rfl⟩
  rw [eX] at hs5 ⊢
  rintro V3 ⟨K3, KX, B3⟩
  clear k5 g5
  go_at_call 33
  refine (tick_any p W.heap.size small6 7 false ⟨1, 0, 1, 0⟩ W V3 NW.out B3.out (Nat.le_refl _) K3.out (.inr rfl) (by decide)).mono ?_
  rw [T3.out]
  rintro e w6 ⟨rfl, k6, g6⟩
  rw [show tickV ⟨1, 0, 1, 1⟩ = .tuple #[.agg #[.int .i64 0, .int .i64 1, .int .i64 1], .bool true] from rfl]
  have kx6 := KX.out.only g6 (by omega)
  have b6 := below_only B3.out g6 B3.out.size (Nat.le_refl _)
  have kt6 := KT.out.below b6
  obtain ⟨x0, x1, x2⟩ := box3 kx6
  obtain ⟨y0, y1, y2⟩ := box3 kt6
  have hlx := kx6.lt
  have hlt := kt6.lt
  have HA := Lib.hid fun (V : World) (hb : Below w6.heap.size w6 V) => ahead_any p small6 ⟨1, 1, 20⟩ V ((NW.out.below b6).below hb)
  rw [show aheadE small6 ⟨1, 1, 20⟩ = 4 from rfl] at HA
  simp only [Tm.V] at HA
  have B6 := Lib.hid b6
  clear kx6 b6 kt6 k6 g6
  go_wp2_with fail
  go_at_call 30
  refine (HA.out _ (ba _ _)).mono ?_
  rintro e w7 ⟨rfl, hb7⟩
  have b7 := Below.then_ (ba w6 (.cells #[.int .i64 0, .int .i64 1, .int .i64 1] 64)) hb7
  have z0 := Below.keeps b7 x0
  have z1 := Below.keeps b7 x1
  have z2 := Below.keeps b7 x2
  obtain ⟨v0, v1, v2⟩ := box3 ((Blk.new_ w6 64 #[.int .i64 0, .int .i64 1, .int .i64 1] rfl).below hb7)
  have B7 := Lib.hid b7
  clear b7 hb7 x0 x1 x2 y0 y1 y2
  go_wp2_with fail
  go_ret
  exact ⟨rfl, HW.out.trans ((B6.out.trans (B7.out.mono B6.out.size)).mono HW.out.size)⟩
end Go.Proofs.YtmpkpikamogpdaaDoor.K
