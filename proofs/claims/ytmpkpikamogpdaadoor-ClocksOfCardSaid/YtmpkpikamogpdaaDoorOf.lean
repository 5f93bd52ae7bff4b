/- sennitlaw06.ClocksOf answers true. -/
import Derived.Test.YtmpkpikamogpdaaDoorRef6b
namespace Go.Proofs.YtmpkpikamogpdaaDoor.K
open Go.RowKit

set_option maxRecDepth 100000 in
set_option maxHeartbeats 4000000 in
theorem lawOf_none (n : Int) (A1 : Option Addr) (c1 : Nat) (ps : List Int) (A2 : Option Addr) (c2 : Nat) (ss : List Int) (long : Int) (A3 : Option Addr) (c3 : Nat) (bs : List Int) (A4 : Option Addr) (c4 : Nat) (st : List Stn) (miss good fresh : Int) (age : Int) (t : Tm) (w : World) (hs : Signs w) (hn : ∀ W, Below w.heap.size w W → Calls Tryd.prog 23 #[(.agg #[.int .i64 n, .slice A1 ps.length c1, .slice A2 ss.length c2, .int .i64 long, .slice A3 bs.length c3, .slice A4 st.length c4, .int .i64 miss, .int .i64 good, .int .i64 fresh])] W fun e w' => e = .returned (.pointer none) ∧ Below W.heap.size W w') :
    Calls Tryd.prog 6 #[(.agg #[.int .i64 n, .slice A1 ps.length c1, .slice A2 ss.length c2, .int .i64 long, .slice A3 bs.length c3, .slice A4 st.length c4, .int .i64 miss, .int .i64 good, .int .i64 fresh]), .int .i64 age, t.V] w fun e w' => e = .returned (.bool true) ∧ Below w.heap.size w w' := by
  obtain ⟨tr, ts, tp⟩ := t
  simp only [Tm.V]
  have HS := Lib.hid hs
  have HN := Lib.hid hn
  clear hs hn
  go_enter Tryd.func6, Tryd.ntmps6
  go_wp2_with fail
  go_at_call 23
  refine (HN.out _ (Below.allocW (ba _ _) _)).mono ?_
  rintro e w1 ⟨rfl, hb1⟩
  have HB1 := Lib.hid (Below.then_ (Below.allocW (ba _ _) _) hb1)
  clear hb1
  go_wp2_with fail
  go_at_call 24
  refine (lives6_any _ (HS.out.below HB1.out)).mono ?_
  rintro e w2 ⟨rfl, hb2⟩
  go_wp2_with fail
  go_ret
  exact ⟨rfl, Below.then_ HB1.out hb2⟩

set_option maxRecDepth 100000 in
set_option maxHeartbeats 8000000 in
theorem lawOf_ok (n : Int) (A1 : Option Addr) (c1 : Nat) (ps : List Int) (A2 : Option Addr) (c2 : Nat) (ss : List Int) (long : Int) (A3 : Option Addr) (c3 : Nat) (bs : List Int) (A4 : Option Addr) (c4 : Nat) (st : List Stn) (miss good fresh : Int) (age : Int) (t : Tm) (w : World) (hs : Signs w) (hg : ¬ GreatP ps ss bs st) (hc : CfgIn w A1 ps A2 ss A3 bs A4 st) (hb : newE ⟨n, ps, ss, long, bs, st, miss, good, fresh⟩ = 0) :
    Calls Tryd.prog 6 #[(.agg #[.int .i64 n, .slice A1 ps.length c1, .slice A2 ss.length c2, .int .i64 long, .slice A3 bs.length c3, .slice A4 st.length c4, .int .i64 miss, .int .i64 good, .int .i64 fresh]), .int .i64 age, t.V] w fun e w' => e = .returned (.bool true) ∧ Below w.heap.size w w' := by
  have HS := Lib.hid hs
  have HN := Lib.hid fun (W : World) (hb' : Below w.heap.size w W) => net6_ok n A1 c1 ps A2 c2 ss long A3 c3 bs A4 c4 st miss good fresh W hg (hc.below hb') hb
  have HO2 := Lib.hid fun (W : World) => refOf_any n A1 c1 ps A2 c2 ss long A3 c3 bs A4 c4 st miss good fresh age W hb
  have HA2 := Lib.hid fun (W : World) => refAge_any n A1 c1 ps A2 c2 ss long A3 c3 bs A4 c4 st miss good fresh t W hb
  have HH2 := Lib.hid fun (W : World) => refAhead_any n A1 c1 ps A2 c2 ss long A3 c3 bs A4 c4 st miss good fresh t W hb
  have HO1 := Lib.hid fun (p : Nat) (W : World) (h : NetAt W p ⟨n, ps, ss, long, bs, st, miss, good, fresh⟩) => of_any p _ age W h
  have HA1 := Lib.hid fun (p : Nat) (W : World) (h : NetAt W p ⟨n, ps, ss, long, bs, st, miss, good, fresh⟩) => age_any p _ t W h
  have HH1 := Lib.hid fun (p : Nat) (W : World) (h : NetAt W p ⟨n, ps, ss, long, bs, st, miss, good, fresh⟩) => ahead_any p _ t W h
  obtain ⟨tr, ts, tp⟩ := t
  obtain ⟨⟨r, sl, pl⟩, ht⟩ : ∃ t, tOf ⟨n, ps, ss, long, bs, st, miss, good, fresh⟩ age = t := ⟨_, rfl⟩
  obtain ⟨E, hE⟩ : ∃ E, eOf age = E := ⟨_, rfl⟩
  obtain ⟨X, hX⟩ : ∃ X, ageR ⟨n, ps, ss, long, bs, st, miss, good, fresh⟩ ⟨tr, ts, tp⟩ = X := ⟨_, rfl⟩
  obtain ⟨G, hG⟩ : ∃ G, ageE ⟨n, ps, ss, long, bs, st, miss, good, fresh⟩ ⟨tr, ts, tp⟩ = G := ⟨_, rfl⟩
  obtain ⟨D, hD⟩ : ∃ D, aheadE ⟨n, ps, ss, long, bs, st, miss, good, fresh⟩ ⟨tr, ts, tp⟩ = D := ⟨_, rfl⟩
  rw [ht, hE] at HO1 HO2
  rw [hX, hG] at HA1 HA2
  rw [hD] at HH1 HH2
  simp only [Tm.V] at HO1 HO2 HA1 HA2 HH1 HH2
  simp only [Tm.V]
  clear hs hg hc hb ht hE hX hG hD
  go_enter Tryd.func6, Tryd.ntmps6
  go_wp2_with fail
  go_at_call 23
  refine (HN.out _ (Below.allocW (ba _ _) _)).mono ?_
  rintro e w1 ⟨p, rfl, hna, hb1⟩
  have k1 := ((Blk.new_ w 44 #[.int .i64 n, .slice A1 ps.length c1, .slice A2 ss.length c2, .int .i64 long, .slice A3 bs.length c3, .slice A4 st.length c4, .int .i64 miss, .int .i64 good, .int .i64 fresh] rfl).alloc (.cells #[.int .i64 tr, .int .i64 ts, .int .i64 tp] 64)).below hb1
  have kt := (Blk.new_ (w.alloc (.cells #[.int .i64 n, .slice A1 ps.length c1, .slice A2 ss.length c2, .int .i64 long, .slice A3 bs.length c3, .slice A4 st.length c4, .int .i64 miss, .int .i64 good, .int .i64 fresh] 44)) 64 #[.int .i64 tr, .int .i64 ts, .int .i64 tp] (g := w.heap.size + 1) (by simp)).below hb1
  have K1 := Lib.hid k1
  have KT1 := Lib.hid kt
  have NA := Lib.hid hna
  have HB1 := Lib.hid (Below.then_ (Below.allocW (ba _ _) _) hb1)
  obtain ⟨y0, y1, y2⟩ := box3 kt
  have hlt := kt.lt
  clear k1 hb1 hna kt
  go_wp2_with fail
  go_at_call 25
  refine (HO1.out p _ (NA.out.below (ba _ _))).mono ?_
  rintro e w2 ⟨rfl, hb2⟩
  have KU := Lib.hid ((Blk.new_ w1 66 #[.int .i64 tr, .int .i64 ts, .int .i64 tp] rfl).below hb2)
  have HB2 := Lib.hid (Below.then_ (ba w1 (.cells #[.int .i64 tr, .int .i64 ts, .int .i64 tp] 66)) hb2)
  obtain ⟨q0, q1, q2, q3, q4, q5, q6, q7, q8⟩ := box9 (K1.out.below HB2.out)
  have hlc := (K1.out.below HB2.out).lt
  clear hb2
  go_wp2_with fail
  go_at_call 26
  refine (HO2.out _).mono ?_
  rintro e w3 ⟨rfl, hb3⟩
  have KA := Lib.hid ((Blk.new_ w2 64 #[.int .i64 r, .int .i64 sl, .int .i64 pl] rfl).below hb3)
  have HB3 := Lib.hid (Below.then_ HB2.out (Below.then_ (ba w2 (.cells #[.int .i64 r, .int .i64 sl, .int .i64 pl] 64)) hb3))
  have KU3 := Lib.hid ((KU.out.alloc _).below hb3)
  clear hb3 y0 y1 y2 hlt q0 q1 q2 q3 q4 q5 q6 q7 q8 hlc
  obtain ⟨y0, y1, y2⟩ := box3 (KT1.out.below HB3.out)
  have hlt := (KT1.out.below HB3.out).lt
  go_wp2_with fail
  refine gen_world (fun V => Hid (Blk V w.heap.size 44 #[.int .i64 n, .slice A1 ps.length c1, .slice A2 ss.length c2, .int .i64 long, .slice A3 bs.length c3, .slice A4 st.length c4, .int .i64 miss, .int .i64 good, .int .i64 fresh]) ∧ Hid (Blk V (w.heap.size + 1) 64 #[.int .i64 tr, .int .i64 ts, .int .i64 tp]) ∧ Hid (Blk V w1.heap.size 66 #[.int .i64 tr, .int .i64 ts, .int .i64 tp]) ∧ Hid (Blk V w2.heap.size 64 #[.int .i64 r, .int .i64 sl, .int .i64 pl]) ∧ Hid (Blk V w3.heap.size 66 #[.int .i64 r, .int .i64 sl, .int .i64 pl]) ∧ Hid (NetAt V p ⟨n, ps, ss, long, bs, st, miss, good, fresh⟩) ∧ Hid (Below w.heap.size w V))
    ⟨Lib.hid ((K1.out.below HB3.out).alloc _), Lib.hid ((KT1.out.below HB3.out).alloc _), Lib.hid (KU3.out.alloc _), Lib.hid (KA.out.alloc _), Lib.hid (Blk.new_ w3 _ _ rfl), Lib.hid ((NA.out.below HB3.out).below (ba _ _)), Lib.hid (Below.allocW (Below.then_ HB1.out HB3.out) _)⟩ ?_
  obtain ⟨P1, e1⟩ : ∃ P, w1.heap.size = P := ⟨_, rfl⟩
  obtain ⟨P2, e2⟩ : ∃ P, w2.heap.size = P := ⟨_, rfl⟩
  obtain ⟨P3, e3⟩ : ∃ P, w3.heap.size = P := ⟨_, rfl⟩
  rw [e1, e2, e3]
  rintro V ⟨KC, KT, KU, KA, KB, NV, HV⟩
  clear K1 KT1 NA HB1 HB2 HB3 KU3 y0 y1 y2 hlt e1 e2 e3
  go_at_call 27
  refine (HA1.out p V NV.out).mono ?_
  rintro e w4 ⟨rfl, hb4⟩
  obtain ⟨q0, q1, q2, q3, q4, q5, q6, q7, q8⟩ := box9 (KC.out.below hb4)
  obtain ⟨y0, y1, y2⟩ := box3 (KU.out.below hb4)
  have HB4 := Lib.hid hb4
  clear hb4
  go_wp2_with fail
  go_at_call 28
  refine (HA2.out _).mono ?_
  rintro e w5 ⟨rfl, hb5⟩
  have HB5 := Lib.hid (Below.then_ HB4.out hb5)
  clear hb5 y0 y1 y2 q0 q1 q2 q3 q4 q5 q6 q7 q8
  have T2 : ∀ x : Grow w5, (x.w.cell? ⟨w.heap.size, 0, none⟩ = some (.int .i64 n) ∧ x.w.cell? ⟨w.heap.size, 1, none⟩ = some (.slice A1 ps.length c1) ∧ x.w.cell? ⟨w.heap.size, 2, none⟩ = some (.slice A2 ss.length c2) ∧ x.w.cell? ⟨w.heap.size, 3, none⟩ = some (.int .i64 long) ∧ x.w.cell? ⟨w.heap.size, 4, none⟩ = some (.slice A3 bs.length c3) ∧ x.w.cell? ⟨w.heap.size, 5, none⟩ = some (.slice A4 st.length c4) ∧ x.w.cell? ⟨w.heap.size, 6, none⟩ = some (.int .i64 miss) ∧ x.w.cell? ⟨w.heap.size, 7, none⟩ = some (.int .i64 good) ∧ x.w.cell? ⟨w.heap.size, 8, none⟩ = some (.int .i64 fresh)) ∧
      (x.w.cell? ⟨w.heap.size + 1, 0, none⟩ = some (.int .i64 tr) ∧ x.w.cell? ⟨w.heap.size + 1, 1, none⟩ = some (.int .i64 ts) ∧ x.w.cell? ⟨w.heap.size + 1, 2, none⟩ = some (.int .i64 tp)) ∧
      (x.w.cell? ⟨P1, 0, none⟩ = some (.int .i64 tr) ∧ x.w.cell? ⟨P1, 1, none⟩ = some (.int .i64 ts) ∧ x.w.cell? ⟨P1, 2, none⟩ = some (.int .i64 tp)) ∧
      (x.w.cell? ⟨P2, 0, none⟩ = some (.int .i64 r) ∧ x.w.cell? ⟨P2, 1, none⟩ = some (.int .i64 sl) ∧ x.w.cell? ⟨P2, 2, none⟩ = some (.int .i64 pl)) ∧
      (x.w.cell? ⟨P3, 0, none⟩ = some (.int .i64 r) ∧ x.w.cell? ⟨P3, 1, none⟩ = some (.int .i64 sl) ∧ x.w.cell? ⟨P3, 2, none⟩ = some (.int .i64 pl)) :=
    fun x => ⟨box9 (x.blk (KC.out.below HB5.out)), box3 (x.blk (KT.out.below HB5.out)), box3 (x.blk (KU.out.below HB5.out)), box3 (x.blk (KA.out.below HB5.out)), box3 (x.blk (KB.out.below HB5.out))⟩
  go_wp2_with fail
  refine wp_region_grow (by kernel_rfl) (by kernel_rfl) ?_
  repeat (go_big_quiet_step ((first | (go_at_call 29; exact Grow.call _ (same6_any ⟨r, sl, pl⟩ _)) | (go_at_call 30; exact Grow.call _ (HH1.out p _ (NV.out.below (by exact HB5.out.trans (Below.mono (Grow.h _) HB5.out.size))))) | (go_at_call 31; exact Grow.call _ (HH2.out _)) | (go_at_call 24; exact Grow.call _ (lives6_any _ (HS.out.below (by exact Below.then_ HV.out (HB5.out.trans (Below.mono (Grow.h _) HB5.out.size)))))))))
  refine wpQuiet_nil ?_
  rintro w6 hx6
  have hb6 := grow_of hx6
  clear hx6 T2
  go_wp2_with fail
  go_ret
  exact ⟨rfl, Below.then_ HV.out (Below.then_ HB5.out hb6)⟩

theorem lawOf_any (n : Int) (A1 : Option Addr) (c1 : Nat) (ps : List Int) (A2 : Option Addr) (c2 : Nat) (ss : List Int) (long : Int) (A3 : Option Addr) (c3 : Nat) (bs : List Int) (A4 : Option Addr) (c4 : Nat) (st : List Stn) (miss good fresh : Int) (age : Int) (t : Tm) (w : World) (hs : Signs w) (r1 : RdI w A1 ps) (r2 : RdI w A2 ss) (r3 : RdI w A3 bs) (r4 : RdV w A4 (stnCells st)) (n1 : A1 = none → ps.length = 0) (n2 : A2 = none → ss.length = 0) (n3 : A3 = none → bs.length = 0) (n4 : A4 = none → st.length = 0) :
    Calls Tryd.prog 6 #[(.agg #[.int .i64 n, .slice A1 ps.length c1, .slice A2 ss.length c2, .int .i64 long, .slice A3 bs.length c3, .slice A4 st.length c4, .int .i64 miss, .int .i64 good, .int .i64 fresh]), .int .i64 age, t.V] w fun e w' => e = .returned (.bool true) ∧ Below w.heap.size w w' := by
  by_cases hg : GreatP ps ss bs st
  · exact lawOf_none n A1 c1 ps A2 c2 ss long A3 c3 bs A4 c4 st miss good fresh age t w hs fun W hb => net6_great n A1 c1 ps A2 c2 ss long A3 c3 bs A4 c4 st miss good fresh W hg
  · have hc : CfgIn w A1 ps A2 ss A3 bs A4 st := ⟨hs, r1, r2, r3, r4, by unfold GreatP at hg; omega, by unfold GreatP at hg; omega, by unfold GreatP at hg; omega, by unfold GreatP at hg; omega, n1, n2, n3, n4⟩
    by_cases hb : newE ⟨n, ps, ss, long, bs, st, miss, good, fresh⟩ = 0
    · exact lawOf_ok n A1 c1 ps A2 c2 ss long A3 c3 bs A4 c4 st miss good fresh age t w hs hg hc hb
    · exact lawOf_none n A1 c1 ps A2 c2 ss long A3 c3 bs A4 c4 st miss good fresh age t w hs fun W hW => net6_bad n A1 c1 ps A2 c2 ss long A3 c3 bs A4 c4 st miss good fresh W hg (hc.below hW) hb
end Go.Proofs.YtmpkpikamogpdaaDoor.K
