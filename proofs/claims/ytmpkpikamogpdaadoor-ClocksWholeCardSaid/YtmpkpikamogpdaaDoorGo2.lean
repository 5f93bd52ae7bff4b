/- sennitlaw06.ClocksGo answers true: the walk. -/
import Derived.Test.YtmpkpikamogpdaaDoorGo
namespace Go.Proofs.YtmpkpikamogpdaaDoor.K
open Go.RowKit

set_option maxRecDepth 100000 in
set_option maxHeartbeats 4000000 in
theorem lawGo_none (n : Int) (A1 : Option Addr) (c1 : Nat) (ps : List Int) (A2 : Option Addr) (c2 : Nat) (ss : List Int) (long : Int) (A3 : Option Addr) (c3 : Nat) (bs : List Int) (A4 : Option Addr) (c4 : Nat) (st : List Stn) (miss good fresh : Int) (age : Int) (w : World) (hs : Signs w) (hn : ∀ W, Below w.heap.size w W → Calls Tryd.prog 23 #[(.agg #[.int .i64 n, .slice A1 ps.length c1, .slice A2 ss.length c2, .int .i64 long, .slice A3 bs.length c3, .slice A4 st.length c4, .int .i64 miss, .int .i64 good, .int .i64 fresh])] W fun e w' => e = .returned (.pointer none) ∧ Below W.heap.size W w') :
    Calls Tryd.prog 10 #[(.agg #[.int .i64 n, .slice A1 ps.length c1, .slice A2 ss.length c2, .int .i64 long, .slice A3 bs.length c3, .slice A4 st.length c4, .int .i64 miss, .int .i64 good, .int .i64 fresh]), .int .i64 age] w fun e w' => e = .returned (.bool true) ∧ Below w.heap.size w w' := by
  have HS := Lib.hid hs
  have HN := Lib.hid hn
  clear hs hn
  go_enter Tryd.func10, Tryd.ntmps10
  go_wp2_with fail
  go_at_call 23
  refine (HN.out _ (ba _ _)).mono ?_
  rintro e w1 ⟨rfl, hb1⟩
  have HB1 := Lib.hid (Below.then_ (ba _ _) hb1)
  clear hb1
  go_wp2_with fail
  go_at_call 24
  refine (lives6_any _ (HS.out.below HB1.out)).mono ?_
  rintro e w2 ⟨rfl, hb2⟩
  go_wp2_with fail
  go_ret
  exact ⟨rfl, Below.then_ HB1.out hb2⟩

theorem tickV_run (r s pl : Int) : tickV ⟨1, r, s, pl⟩ = .tuple #[.agg #[.int .i64 r, .int .i64 s, .int .i64 pl], .bool true] := rfl
theorem tickV_idle (r s pl : Int) : tickV ⟨0, r, s, pl⟩ = .tuple #[.agg #[.int .i64 0, .int .i64 0, .int .i64 0], .bool false] := rfl

set_option maxRecDepth 100000 in
set_option maxHeartbeats 8000000 in
theorem lawGo_ok (n : Int) (A1 : Option Addr) (c1 : Nat) (ps : List Int) (A2 : Option Addr) (c2 : Nat) (ss : List Int) (long : Int) (A3 : Option Addr) (c3 : Nat) (bs : List Int) (A4 : Option Addr) (c4 : Nat) (st : List Stn) (miss good fresh : Int) (age : Int) (w : World) (hs : Signs w) (hg : ¬ GreatP ps ss bs st) (hc : CfgIn w A1 ps A2 ss A3 bs A4 st) (hb : newE ⟨n, ps, ss, long, bs, st, miss, good, fresh⟩ = 0) :
    Calls Tryd.prog 10 #[(.agg #[.int .i64 n, .slice A1 ps.length c1, .slice A2 ss.length c2, .int .i64 long, .slice A3 bs.length c3, .slice A4 st.length c4, .int .i64 miss, .int .i64 good, .int .i64 fresh]), .int .i64 age] w fun e w' => e = .returned (.bool true) ∧ Below w.heap.size w w' := by
  have HS := Lib.hid hs
  have HN := Lib.hid fun (W : World) (hb' : Below w.heap.size w W) => net6_ok n A1 c1 ps A2 c2 ss long A3 c3 bs A4 c4 st miss good fresh W hg (hc.below hb') hb
  have HE := Lib.hid hb
  clear hs hg hc hb
  obtain ⟨a, ea⟩ : ∃ a, bits .and .i64 age 549755813887 = a := ⟨_, rfl⟩
  have ha := and_range age 549755813887 (by decide) (by decide)
  rw [ea] at ha
  obtain ⟨ha0, ha1⟩ := ha
  go_enter Tryd.func10, Tryd.ntmps10
  go_wp2_with fail
  go_at_call 23
  refine (HN.out _ (ba _ _)).mono ?_
  rintro e w1 ⟨p, rfl, hna, hb1⟩
  have k1 := (Blk.new_ w 44 #[.int .i64 n, .slice A1 ps.length c1, .slice A2 ss.length c2, .int .i64 long, .slice A3 bs.length c3, .slice A4 st.length c4, .int .i64 miss, .int .i64 good, .int .i64 fresh] rfl).below hb1
  have NA := Lib.hid hna
  have HB1 := Lib.hid (Below.then_ (ba _ _) hb1)
  have hlk := k1.lt
  obtain ⟨q0, q1, q2, q3, q4, q5, q6, q7, q8⟩ := box9 k1
  clear k1 hb1 hna
  by_cases hL : 300 < long
  · go_wp2_with fail
    go_at_call 24
    refine (lives6_any _ (HS.out.below HB1.out)).mono ?_
    rintro e w2 ⟨rfl, hb2⟩
    go_wp2_with fail
    go_ret
    exact ⟨rfl, Below.then_ HB1.out hb2⟩
  go_wp2_with fail
  go_at_call 32
  refine (clkNew_any p _ w1 NA.out).mono ?_
  rintro e w3 ⟨q, rfl, rfl⟩
  clear q0 q1 q2 q3 q4 q5 q6 q7 q8 hlk
  go_wp2_with fail
  refine gen_wp (fun V => Hid (Blk V w1.heap.size 93 (Ck.cells p ⟨0, 0, 0, 0⟩)) ∧ Hid (Below w1.heap.size w1 V)) ⟨Lib.hid (Blk.new_ (w1.drewN q) _ _ rfl), Lib.hid ((below_drewN (Below.refl _ w1) q).alloc (Nat.le_refl _) _)⟩ ?_
  obtain ⟨K, eK⟩ : ∃ K, w1.heap.size = K := ⟨_, rfl⟩
  rw [eK]
  rintro V ⟨KV, HV⟩
  have NK : Hid (∀ U : World, Below K w1 U → NetAt U p ⟨n, ps, ss, long, bs, st, miss, good, fresh⟩) := Lib.hid fun U hU => NA.out.below (by rw [eK]; exact hU)
  have HTK : Hid (∀ (i : Int) (k : Ck) (U : World), Below K w1 U → Blk U K 93 (k.cells p) → (k.state = 0 ∨ k.state = 1) → (0 ≤ k.pl ∧ k.pl ≤ 4096) → Calls Tryd.prog 33 #[.pointer (some ⟨K, 0, none⟩), .int .i64 i, .bool true] U fun e w' => e = .returned (tickV (tickS ⟨n, ps, ss, long, bs, st, miss, good, fresh⟩ i true k)) ∧ Blk w' K 93 ((tickS ⟨n, ps, ss, long, bs, st, miss, good, fresh⟩ i true k).cells p) ∧ U.grownBy w' (some K)) :=
    Lib.hid fun i k U h1 h2 h3 h4 => tick_any p K _ i true k w1 U NA.out (by rw [eK]; exact h1) (by omega) h2 h3 h4
  go_loopw [7, 8, 9, 10, 11, 12, 13, 14] (fun s7 s8 _ _ _ _ _ _ wr => ∃ (i : Nat) (k : Ck) (b : Bool), i ≤ 800 ∧ s8 = .int .i64 i ∧ s7 = .bool b ∧ Hid (GoInv ⟨n, ps, ss, long, bs, st, miss, good, fresh⟩ a i k b) ∧ Hid (Blk wr K 93 (k.cells p)) ∧ Hid (Below K w1 wr)) (fun _ s8 _ _ _ _ _ _ _ => 800 - (intOf s8).toNat)
  case atStart => exact ⟨0, ⟨0, 0, 0, 0⟩, false, by omega, rfl, rfl, Lib.hid (.inl ⟨rfl, rfl, by decide, by decide, .inl rfl⟩), KV, HV⟩
  case round =>
    obtain ⟨i, k, b, hi, rfl, rfl, HI, KK, HB⟩ := hrel
    have hKw := KK.out.lt
    by_cases hlt : i < 800
    · have hpl := go_pl HE.out HI.out ha0 (by omega)
      have HT := HTK.out (a + i) k wr HB.out KK.out hpl.1 hpl.2
      have hstep := go_step HE.out HI.out ha0 (by omega) (by omega)
      have HO := Lib.hid fun (U : World) (h : Below K w1 U) => of_any p _ (a + i) U (NK.out U h)
      have htb := tOf_back HE.out (a := a + i) (by omega) (by omega)
      have HA := Lib.hid fun (U : World) (h : Below K w1 U) => ahead_any p _ (tOf ⟨n, ps, ss, long, bs, st, miss, good, fresh⟩ (a + i)) U (NK.out U h)
      have hah : aheadE ⟨n, ps, ss, long, bs, st, miss, good, fresh⟩ (tOf ⟨n, ps, ss, long, bs, st, miss, good, fresh⟩ (a + i)) = (tOf ⟨n, ps, ss, long, bs, st, miss, good, fresh⟩ (a + i)).round * ss.length + (tOf ⟨n, ps, ss, long, bs, st, miss, good, fresh⟩ (a + i)).slot := by rw [aheadE, if_pos htb.1]
      rw [hah] at HA
      rw [show eOf (a + i) = 0 by rw [eOf, if_neg (not_out (by omega) (by omega))]] at HO
      obtain ⟨_, _, _, hs12, ⟨p0, p1⟩, hr1, hr2⟩ := htb
      obtain ⟨⟨r, s, pl⟩, ht⟩ : ∃ t, tOf ⟨n, ps, ss, long, bs, st, miss, good, fresh⟩ (a + i) = t := ⟨_, rfl⟩
      rw [ht] at HO HA hs12 hr1 hr2 p0 p1 hstep
      dsimp only at hs12 hr1 hr2 p0 p1 hstep
      simp only [Tm.V] at HO HA
      obtain ⟨X, eX⟩ : ∃ X, r * (ss.length : Int) + s = X := ⟨_, rfl⟩
      have HSL := Lib.hid fun (U : World) (h : Below K w1 U) (hk : Blk U K 93 (Ck.cells p ⟨1, r, s, pl⟩)) => slot_run p K _ r s pl U (NK.out U h) hk ⟨hr1, hr2⟩ hs12
      dsimp only at HSL
      rw [eX] at HA HSL
      clear ht hah eX hpl
      rcases hstep with ⟨e1, e2, e3⟩ | ⟨e1, e2, e3, e4⟩
      · rw [e1, tickV_run] at HT
        rw [e1] at e2
        have HT2 := Lib.hid HT
        have HI2 := Lib.hid e2
        clear HT e1 e2
        rcases e3 with rfl | ⟨rfl, rfl⟩
        all_goals
          go_wp2_with fail
          go_at_call 33
          refine (HT2.out).mono ?_
          rintro e w2 ⟨rfl, k2, g2⟩
          have hb2 := below_only HB.out g2 (Nat.le_of_lt hKw) (Nat.le_refl _)
          have hs2 := k2.lt
          go_wp2_with fail
          refine gen_world (fun U => Hid (Blk U K 93 (Ck.cells p ⟨1, r, s, _⟩)) ∧ Hid (Blk U w2.heap.size 64 #[.int .i64 r, .int .i64 s, .int .i64 _]) ∧ Hid (Below K w1 U)) ⟨Lib.hid (k2.alloc _), Lib.hid (Blk.new_ w2 _ _ rfl), Lib.hid (hb2.alloc (by omega) _)⟩ ?_
          rintro U1 ⟨KU1, TU1, BU1⟩
          clear k2 g2 hb2
          go_at_call 25
          refine (HO.out U1 BU1.out).mono ?_
          rintro e w4 ⟨rfl, hb4⟩
          have kt4 := TU1.out.below hb4
          obtain ⟨y0, y1, y2⟩ := box3 kt4
          have hl4 := kt4.lt
          have hK4 := (KU1.out.below hb4).lt
          go_wp2_with fail
          refine gen_world (fun U => Hid (Blk U K 93 (Ck.cells p ⟨1, r, s, _⟩)) ∧ Hid (Blk U w4.heap.size 64 #[.int .i64 r, .int .i64 s, .int .i64 _]) ∧ Hid (Below K w1 U)) ⟨Lib.hid ((KU1.out.below hb4).alloc _), Lib.hid (Blk.new_ w4 _ _ rfl), Lib.hid ((BU1.out.trans (hb4.mono (Nat.le_of_lt KU1.out.lt))).alloc (by omega) _)⟩ ?_
          rintro U2 ⟨KU2, TU2, BU2⟩
          clear kt4 y0 y1 y2 hl4 hb4
          go_at_call 34
          refine (HSL.out U2 BU2.out KU2.out).mono ?_
          rintro e w5 ⟨rfl, q5, rfl⟩
          obtain ⟨y0, y1, y2⟩ := box3 TU2.out
          have hl5 := TU2.out.lt
          go_wp2_with fail
          go_at_call 30
          refine (HA.out _ (below_drewN BU2.out q5)).mono ?_
          rintro e w6 ⟨rfl, hb6⟩
          go_wp2_with fail
          go_roundw
          case rel => exact ⟨i + 1, ⟨1, r, s, _⟩, true, by omega, by go_num, rfl, HI2, Lib.hid ((KU2.out.drewN q5).below hb6), Lib.hid ((below_drewN BU2.out q5).trans (hb6.mono (Nat.le_of_lt (KU2.out.drewN q5).lt)))⟩
          case measure => simp [intOf]; omega
      · subst e2
        obtain ⟨⟨st', r', s', pl'⟩, hk'⟩ : ∃ k', tickS ⟨n, ps, ss, long, bs, st, miss, good, fresh⟩ (a + i) true k = k' := ⟨_, rfl⟩
        rw [hk'] at HT e1 e4
        dsimp only at e1
        subst e1
        rw [tickV_idle] at HT
        have HT2 := Lib.hid HT
        have HI2 := Lib.hid e4
        have hz : (pl == 0) = false := by simpa using e3
        clear HT e4 e3 hk'
        go_wp2_with fail
        go_at_call 33
        refine (HT2.out).mono ?_
        rintro e w2 ⟨rfl, k2, g2⟩
        have hb2 := below_only HB.out g2 (Nat.le_of_lt hKw) (Nat.le_refl _)
        have hs2 := k2.lt
        go_wp2_with fail
        refine gen_world (fun U => Hid (Blk U K 93 (Ck.cells p ⟨0, r', s', pl'⟩)) ∧ Hid (Blk U w2.heap.size 64 #[.int .i64 0, .int .i64 0, .int .i64 0]) ∧ Hid (Below K w1 U)) ⟨Lib.hid (k2.alloc _), Lib.hid (Blk.new_ w2 _ _ rfl), Lib.hid (hb2.alloc (by omega) _)⟩ ?_
        rintro U1 ⟨KU1, TU1, BU1⟩
        clear k2 g2 hb2
        go_at_call 25
        refine (HO.out U1 BU1.out).mono ?_
        rintro e w4 ⟨rfl, hb4⟩
        have kt4 := TU1.out.below hb4
        obtain ⟨y0, y1, y2⟩ := box3 kt4
        have hl4 := kt4.lt
        have hK4 := (KU1.out.below hb4).lt
        go_wp2_with fail
        refine gen_world (fun U => Hid (Blk U K 93 (Ck.cells p ⟨0, r', s', pl'⟩)) ∧ Hid (Below K w1 U)) ⟨Lib.hid ((KU1.out.below hb4).alloc _), Lib.hid ((BU1.out.trans (hb4.mono (Nat.le_of_lt KU1.out.lt))).alloc (by omega) _)⟩ ?_
        rintro U2 ⟨KU2, BU2⟩
        clear kt4 y0 y1 y2 hl4 hb4
        go_at_call 34
        refine (slot_idle p K r' s' pl' U2 KU2.out).mono ?_
        rintro e w5 ⟨rfl, rfl⟩
        go_wp2_with fail
        go_roundw
        case rel => exact ⟨i + 1, ⟨0, r', s', pl'⟩, false, by omega, by go_num, rfl, HI2, KU2, BU2⟩
        case measure => simp [intOf]; omega
    · obtain rfl : i = 800 := by omega
      have hend := go_end HE.out HI.out ha0 (by omega) (by dsimp only; omega)
      subst hend
      go_wp2_with fail
      go_at_call 24
      refine (lives6_any _ (HS.out.below (Below.then_ HB1.out (by rw [eK]; exact HB.out)))).mono ?_
      rintro e w2 ⟨rfl, hb2⟩
      go_wp2_with fail
      go_ret
      exact ⟨rfl, Below.then_ (Below.then_ HB1.out (by rw [eK]; exact HB.out)) hb2⟩

theorem lawGo_any (n : Int) (A1 : Option Addr) (c1 : Nat) (ps : List Int) (A2 : Option Addr) (c2 : Nat) (ss : List Int) (long : Int) (A3 : Option Addr) (c3 : Nat) (bs : List Int) (A4 : Option Addr) (c4 : Nat) (st : List Stn) (miss good fresh : Int) (age : Int) (w : World) (hs : Signs w) (r1 : RdI w A1 ps) (r2 : RdI w A2 ss) (r3 : RdI w A3 bs) (r4 : RdV w A4 (stnCells st)) (n1 : A1 = none → ps.length = 0) (n2 : A2 = none → ss.length = 0) (n3 : A3 = none → bs.length = 0) (n4 : A4 = none → st.length = 0) :
    Calls Tryd.prog 10 #[(.agg #[.int .i64 n, .slice A1 ps.length c1, .slice A2 ss.length c2, .int .i64 long, .slice A3 bs.length c3, .slice A4 st.length c4, .int .i64 miss, .int .i64 good, .int .i64 fresh]), .int .i64 age] w fun e w' => e = .returned (.bool true) ∧ Below w.heap.size w w' := by
  by_cases hg : GreatP ps ss bs st
  · exact lawGo_none n A1 c1 ps A2 c2 ss long A3 c3 bs A4 c4 st miss good fresh age w hs fun W hb => net6_great n A1 c1 ps A2 c2 ss long A3 c3 bs A4 c4 st miss good fresh W hg
  · have hc : CfgIn w A1 ps A2 ss A3 bs A4 st := ⟨hs, r1, r2, r3, r4, by unfold GreatP at hg; omega, by unfold GreatP at hg; omega, by unfold GreatP at hg; omega, by unfold GreatP at hg; omega, n1, n2, n3, n4⟩
    by_cases hb : newE ⟨n, ps, ss, long, bs, st, miss, good, fresh⟩ = 0
    · exact lawGo_ok n A1 c1 ps A2 c2 ss long A3 c3 bs A4 c4 st miss good fresh age w hs hg hc hb
    · exact lawGo_none n A1 c1 ps A2 c2 ss long A3 c3 bs A4 c4 st miss good fresh age w hs fun W hW => net6_bad n A1 c1 ps A2 c2 ss long A3 c3 bs A4 c4 st miss good fresh W hg (hc.below hW) hb
end Go.Proofs.YtmpkpikamogpdaaDoor.K
