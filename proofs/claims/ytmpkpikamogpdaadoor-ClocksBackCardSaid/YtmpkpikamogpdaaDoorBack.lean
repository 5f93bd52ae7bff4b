/- sennitlaw06.ClocksBack answers true. -/
import Derived.Test.YtmpkpikamogpdaaDoorClk6
namespace Go.Proofs.YtmpkpikamogpdaaDoor.K
open Go.RowKit

set_option maxRecDepth 100000 in
set_option maxHeartbeats 4000000 in
theorem lawBack_none (n : Int) (A1 : Option Addr) (c1 : Nat) (ps : List Int) (A2 : Option Addr) (c2 : Nat) (ss : List Int) (long : Int) (A3 : Option Addr) (c3 : Nat) (bs : List Int) (A4 : Option Addr) (c4 : Nat) (st : List Stn) (miss good fresh : Int) (age : Int) (w : World) (hs : Signs w) (hn : ∀ W, Below w.heap.size w W → Calls Tryd.prog 23 #[(.agg #[.int .i64 n, .slice A1 ps.length c1, .slice A2 ss.length c2, .int .i64 long, .slice A3 bs.length c3, .slice A4 st.length c4, .int .i64 miss, .int .i64 good, .int .i64 fresh])] W fun e w' => e = .returned (.pointer none) ∧ Below W.heap.size W w') :
    Calls Tryd.prog 7 #[(.agg #[.int .i64 n, .slice A1 ps.length c1, .slice A2 ss.length c2, .int .i64 long, .slice A3 bs.length c3, .slice A4 st.length c4, .int .i64 miss, .int .i64 good, .int .i64 fresh]), .int .i64 age] w fun e w' => e = .returned (.bool true) ∧ Below w.heap.size w w' := by
  have HS := Lib.hid hs
  have HN := Lib.hid hn
  clear hs hn
  go_enter Tryd.func7, Tryd.ntmps7
  go_wp2_with fail
  go_at_call 23
  refine (HN.out _ (ba _ _)).mono ?_
  rintro e w1 ⟨rfl, hb1⟩
  have HB1 := Lib.hid (Below.then_ (ba _ _) hb1)
  clear hb1
  go_wp2_with fail
  go_at_call 24
  refine (lives6_any _ (HS.out.below HB1.out)).mono ?_
  rintro e w2 ⟨rfl, hb2⟩
  go_wp2_with fail
  go_ret
  exact ⟨rfl, Below.then_ HB1.out hb2⟩

set_option maxRecDepth 100000 in
set_option maxHeartbeats 8000000 in
theorem lawBack_ok (n : Int) (A1 : Option Addr) (c1 : Nat) (ps : List Int) (A2 : Option Addr) (c2 : Nat) (ss : List Int) (long : Int) (A3 : Option Addr) (c3 : Nat) (bs : List Int) (A4 : Option Addr) (c4 : Nat) (st : List Stn) (miss good fresh : Int) (age : Int) (w : World) (hs : Signs w) (hg : ¬ GreatP ps ss bs st) (hc : CfgIn w A1 ps A2 ss A3 bs A4 st) (hb : newE ⟨n, ps, ss, long, bs, st, miss, good, fresh⟩ = 0) :
    Calls Tryd.prog 7 #[(.agg #[.int .i64 n, .slice A1 ps.length c1, .slice A2 ss.length c2, .int .i64 long, .slice A3 bs.length c3, .slice A4 st.length c4, .int .i64 miss, .int .i64 good, .int .i64 fresh]), .int .i64 age] w fun e w' => e = .returned (.bool true) ∧ Below w.heap.size w w' := by
  have HS := Lib.hid hs
  have HN := Lib.hid fun (W : World) (hb' : Below w.heap.size w W) => net6_ok n A1 c1 ps A2 c2 ss long A3 c3 bs A4 c4 st miss good fresh W hg (hc.below hb') hb
  have hB := rb_of hb
  have HE := Lib.hid hb
  clear hs hg hc hb
  obtain ⟨m0, m1, l0, l1, r0, r1, rl⟩ := hB
  dsimp only at m0 m1 l0 l1 r1 rl
  obtain ⟨a, ea⟩ : ∃ a, bits .and .i64 age 1099511627775 = a := ⟨_, rfl⟩
  have ha := and_range age 1099511627775 (by decide) (by decide)
  rw [ea] at ha
  obtain ⟨ha0, ha1⟩ := ha
  go_enter Tryd.func7, Tryd.ntmps7
  go_wp2_with fail
  go_at_call 23
  refine (HN.out _ (ba _ _)).mono ?_
  rintro e w1 ⟨p, rfl, hna, hb1⟩
  have k1 := (Blk.new_ w 44 #[.int .i64 n, .slice A1 ps.length c1, .slice A2 ss.length c2, .int .i64 long, .slice A3 bs.length c3, .slice A4 st.length c4, .int .i64 miss, .int .i64 good, .int .i64 fresh] rfl).below hb1
  have K1 := Lib.hid k1
  have NA := Lib.hid hna
  have HB1 := Lib.hid (Below.then_ (ba _ _) hb1)
  have hlk := k1.lt
  clear k1 hb1 hna
  go_wp2_with fail
  have HTB := Lib.hid (tOf_back HE.out ha0 (by omega : a ≤ 1099511627776))
  have HTN := Lib.hid (tOf_next HE.out ha0 (by omega : a + 1 ≤ 1099511627776))
  have HO1 := Lib.hid fun (W : World) (hb : Below w1.heap.size w1 W) => of_any p _ a W (NA.out.below hb)
  have HO2 := Lib.hid fun (W : World) (hb : Below w1.heap.size w1 W) => of_any p _ (a + 1) W (NA.out.below hb)
  have HAG := Lib.hid fun (W : World) (hb : Below w1.heap.size w1 W) => age_any p _ (tOf ⟨n, ps, ss, long, bs, st, miss, good, fresh⟩ a) W (NA.out.below hb)
  have HAH := Lib.hid fun (W : World) (hb : Below w1.heap.size w1 W) => ahead_any p _ (tOf ⟨n, ps, ss, long, bs, st, miss, good, fresh⟩ a) W (NA.out.below hb)
  rw [show eOf a = 0 by rw [eOf, if_neg (by unfold outB; omega)]] at HO1
  rw [show eOf (a + 1) = 0 by rw [eOf, if_neg (by unfold outB; omega)]] at HO2
  have htb := HTB.out
  rw [ageR, ageE, if_pos htb.1, if_pos htb.1, htb.2.1] at HAG
  obtain ⟨AH, eAH⟩ : ∃ AH, a / long = AH := ⟨_, rfl⟩
  rw [htb.2.2.1, eAH] at HAH
  obtain ⟨_, _, _, ⟨s0, s1⟩, ⟨p0, p1⟩, q0, q1⟩ := htb
  obtain ⟨⟨r, sl, pl⟩, ht⟩ : ∃ t, tOf ⟨n, ps, ss, long, bs, st, miss, good, fresh⟩ a = t := ⟨_, rfl⟩
  obtain ⟨⟨r2, sl2, pl2⟩, ht2⟩ : ∃ t, tOf ⟨n, ps, ss, long, bs, st, miss, good, fresh⟩ (a + 1) = t := ⟨_, rfl⟩
  rw [ht] at HO1 HAG HAH HTN s0 s1 p0 p1 q0 q1
  rw [ht2] at HO2 HTN
  dsimp only at s0 s1 p0 p1 q0 q1
  simp only [Tm.V] at HO1 HO2 HAG HAH
  clear ht ht2 HTB
  have gAH : IntKind.i64.wrap (a.tdiv long) = AH := (IntWalk.i64_quo a long ⟨by omega, by omega, by omega⟩).trans eAH
  have hL0 : ¬ long = 0 := by omega
  clear eAH
  go_at_call 25
  refine (HO1.out _ (Below.refl _ _)).mono ?_
  rintro e w2 ⟨rfl, hb2⟩
  go_wp2_with fail
  go_at_call 25
  refine (HO2.out _ (Below.allocW hb2 _)).mono ?_
  rintro e w3 ⟨rfl, hb3⟩
  have kt := (Blk.new_ w2 64 #[.int .i64 r, .int .i64 sl, .int .i64 pl] rfl).below hb3
  obtain ⟨y0, y1, y2⟩ := box3 kt
  have hlt := kt.lt
  have KT := Lib.hid kt
  have HB3 := Lib.hid (Below.then_ (Below.allocW hb2 _) hb3)
  clear kt hb2 hb3
  go_wp2_with fail
  go_at_call 27
  refine (HAG.out _ (Below.allocW HB3.out _)).mono ?_
  rintro e w4 ⟨rfl, hb4⟩
  have ku := (Blk.new_ w3 64 #[.int .i64 r2, .int .i64 sl2, .int .i64 pl2] rfl).below hb4
  have kt := (KT.out.alloc _).below hb4
  clear y0 y1 y2 hlt
  obtain ⟨y0, y1, y2⟩ := box3 kt
  obtain ⟨x0, x1, x2⟩ := box3 ku
  have hlt := kt.lt
  have hlu := ku.lt
  have HB4 := Lib.hid (Below.then_ (Below.allocW HB3.out _) hb4)
  have kc := K1.out.below HB4.out
  obtain ⟨z0, z1, z2, z3, z4, z5, z6, z7, z8⟩ := box9 kc
  have hlc := kc.lt
  clear kt ku kc hb4 KT HB3
  go_wp2_with fail
  have d1 : decide (sl < 0) = false := by simp; omega
  have d2 : decide ((ss.length : Int) ≤ sl) = false := by simp; omega
  have d3 : decide (pl < 0) = false := by simp; omega
  have d4 : decide (long ≤ pl) = false := by simp; omega
  have T2 : ∀ x : Grow w4, (x.w.cell? ⟨w2.heap.size, 0, none⟩ = some (.int .i64 r) ∧ x.w.cell? ⟨w2.heap.size, 1, none⟩ = some (.int .i64 sl) ∧ x.w.cell? ⟨w2.heap.size, 2, none⟩ = some (.int .i64 pl)) ∧ x.w.cell? ⟨w.heap.size, 3, none⟩ = some (.int .i64 long) ∧ x.w.cell? ⟨w.heap.size, 2, none⟩ = some (.slice A2 ss.length c2) :=
    fun x => ⟨⟨x.cell y0, x.cell y1, x.cell y2⟩, x.cell z3, x.cell z2⟩
  refine wp_region_grow (by kernel_rfl) (by kernel_rfl) ?_
  repeat (go_big_quiet_step ((go_at_call 30; exact Grow.call _ (HAH.out _ (by exact HB4.out.trans (Below.mono (Grow.h _) HB4.out.size))))))
  refine wpQuiet_nil ?_
  rintro w5 hx5
  have hb5 := grow_of hx5
  clear hx5 T2
  have a0 := Below.keeps hb5 y0
  have a1 := Below.keeps hb5 y1
  have a2 := Below.keeps hb5 y2
  have b0 := Below.keeps hb5 x0
  have b1 := Below.keeps hb5 x1
  have b2 := Below.keeps hb5 x2
  have v2 := Below.keeps hb5 z2
  have v3 := Below.keeps hb5 z3
  have HB5 := Lib.hid (Below.then_ (Below.then_ HB1.out HB4.out) hb5)
  clear hb5 y0 y1 y2 x0 x1 x2 z0 z1 z2 z3 z4 z5 z6 z7 z8 hlt hlu hlc
  have hnx := HTN.out
  by_cases k1 : pl + 1 < long
  · rw [if_pos k1] at hnx
    have e0 := hnx.symm
    clear hnx
    injection e0 with e1 e2 e3
    subst e1 e2 e3
    go_wp2_with fail
    go_at_call 24
    refine (lives6_any _ (HS.out.below HB5.out)).mono ?_
    rintro e w6 ⟨rfl, hb6⟩
    go_wp2_with fail
    go_ret
    exact ⟨rfl, Below.then_ HB5.out hb6⟩
  · rw [if_neg k1] at hnx
    by_cases k2 : sl + 1 < (ss.length : Int)
    · rw [if_pos k2] at hnx
      have e0 := hnx.symm
      clear hnx
      injection e0 with e1 e2 e3
      subst e1 e2 e3
      go_wp2_with fail
      go_at_call 24
      refine (lives6_any _ (HS.out.below HB5.out)).mono ?_
      rintro e w6 ⟨rfl, hb6⟩
      go_wp2_with fail
      go_ret
      exact ⟨rfl, Below.then_ HB5.out hb6⟩
    · rw [if_neg k2] at hnx
      have e0 := hnx.symm
      clear hnx
      injection e0 with e1 e2 e3
      subst e1 e2 e3
      go_wp2_with fail
      go_at_call 24
      refine (lives6_any _ (HS.out.below HB5.out)).mono ?_
      rintro e w6 ⟨rfl, hb6⟩
      go_wp2_with fail
      go_ret
      exact ⟨rfl, Below.then_ HB5.out hb6⟩

theorem lawBack_any (n : Int) (A1 : Option Addr) (c1 : Nat) (ps : List Int) (A2 : Option Addr) (c2 : Nat) (ss : List Int) (long : Int) (A3 : Option Addr) (c3 : Nat) (bs : List Int) (A4 : Option Addr) (c4 : Nat) (st : List Stn) (miss good fresh : Int) (age : Int) (w : World) (hs : Signs w) (r1 : RdI w A1 ps) (r2 : RdI w A2 ss) (r3 : RdI w A3 bs) (r4 : RdV w A4 (stnCells st)) (n1 : A1 = none → ps.length = 0) (n2 : A2 = none → ss.length = 0) (n3 : A3 = none → bs.length = 0) (n4 : A4 = none → st.length = 0) :
    Calls Tryd.prog 7 #[(.agg #[.int .i64 n, .slice A1 ps.length c1, .slice A2 ss.length c2, .int .i64 long, .slice A3 bs.length c3, .slice A4 st.length c4, .int .i64 miss, .int .i64 good, .int .i64 fresh]), .int .i64 age] w fun e w' => e = .returned (.bool true) ∧ Below w.heap.size w w' := by
  by_cases hg : GreatP ps ss bs st
  · exact lawBack_none n A1 c1 ps A2 c2 ss long A3 c3 bs A4 c4 st miss good fresh age w hs fun W hb => net6_great n A1 c1 ps A2 c2 ss long A3 c3 bs A4 c4 st miss good fresh W hg
  · have hc : CfgIn w A1 ps A2 ss A3 bs A4 st := ⟨hs, r1, r2, r3, r4, by unfold GreatP at hg; omega, by unfold GreatP at hg; omega, by unfold GreatP at hg; omega, by unfold GreatP at hg; omega, n1, n2, n3, n4⟩
    by_cases hb : newE ⟨n, ps, ss, long, bs, st, miss, good, fresh⟩ = 0
    · exact lawBack_ok n A1 c1 ps A2 c2 ss long A3 c3 bs A4 c4 st miss good fresh age w hs hg hc hb
    · exact lawBack_none n A1 c1 ps A2 c2 ss long A3 c3 bs A4 c4 st miss good fresh age w hs fun W hW => net6_bad n A1 c1 ps A2 c2 ss long A3 c3 bs A4 c4 st miss good fresh W hg (hc.below hW) hb
end Go.Proofs.YtmpkpikamogpdaaDoor.K
