/- sennitlaw26.ActuatorsRun answers true: the walk. -/
import Derived.Test.YtmpkpikamogpdaaDoorRun
namespace Go.Proofs.YtmpkpikamogpdaaDoor.K
open Go.RowKit

theorem stale_raw (any : Bool) (seq val round : Int) (w : World) :
    Calls Tryd.prog 19 #[.agg #[.bool any, .int .u32 seq, .int .u32 val, .int .i64 round]] w fun e w' => e = .returned (.agg #[.bool any, .int .u32 seq, .int .u32 val, .int .i64 (-100)]) ∧ Below w.heap.size w w' := stale_any ⟨any, seq, val, round⟩ w
theorem set4_blk {W : World} {g : Nat} {t : TypeId} {z0 z1 z2 z3 v0 v1 v2 v3 : Value} (h : Blk W g t #[z0, z1, z2, z3]) :
    Blk ((((W.setCell ⟨g, 0, none⟩ v0).setCell ⟨g, 1, none⟩ v1).setCell ⟨g, 2, none⟩ v2).setCell ⟨g, 3, none⟩ v3) g t #[v0, v1, v2, v3] := by
  simpa using (((h.set_ 0 v0).set_ 1 v1).set_ 2 v2).set_ 3 v3
theorem u64mod50 (x : Int) : 0 ≤ (IntKind.u64.wrap x).tmod 50 ∧ (IntKind.u64.wrap x).tmod 50 ≤ 49 := by
  rw [IntKind.wrap_u64, Int.tmod_eq_emod_of_nonneg (by omega)]
  omega
/-- Behind the test whether it holds no more. -/
def CutRun (ds : List ADl) (last R : Int) (k S D : Nat) (wn : World) (is : Value) (at_ kind station dseq value pair command : Int) (s12 : Value) (wx : World) : Prop :=
  ∃ (sn : Int) (s : ASt), s12 = .int .i64 sn ∧ RunInv ds s last sn R k ∧ Blk wx S 27 #[.bool s.any, .int .u32 s.seq, .int .u32 s.val, .int .i64 s.round] ∧
    Blk wx D 36 #[is, .int .i64 at_, .int .u8 kind, .int .u8 station, .int .u32 dseq, .int .u32 value, .int .i64 pair, .int .i64 command, .int .i64 R] ∧ Below S wn wx

/-- Behind the test whether it was taken. -/
def CutRun2 (ds : List ADl) (R : Int) (k S T : Nat) (wn : World) (tany : Bool) (tseq tval tround : Int) (s11 s12 : Value) (wx : World) : Prop :=
  ∃ last sn : Int, s11 = .int .i64 last ∧ s12 = .int .i64 sn ∧ RunInv ds ⟨tany, tseq, tval, tround⟩ last sn R (k + 1) ∧ (∃ z0 z1 z2 z3, Blk wx S 27 #[z0, z1, z2, z3]) ∧
    Blk wx T 27 #[.bool tany, .int .u32 tseq, .int .u32 tval, .int .i64 tround] ∧ Below S wn wx

set_option maxRecDepth 100000 in
set_option maxHeartbeats 8000000 in
theorem lawRun_any (safe hold : Int) (A : Option Addr) (c : Nat) (ds : List ADl) (w : World) (hs : Signs w) (hh : 0 ≤ hold ∧ hold < 256) (hrd : RdV w A (delCells ds)) (hst : ∀ d ∈ ds, 0 ≤ d.station ∧ d.station < 256) (hrg : ∀ d ∈ ds, I64 d.round) (hl : ds.length ≤ 9223372036854775807) :
    Calls Tryd.prog 5 #[.int .u32 safe, .int .u8 hold, .slice A ds.length c] w fun e w' => e = .returned (.bool true) ∧ Below w.heap.size w w' := by
  have HS := Lib.hid hs
  have HRD := Lib.hid hrd
  have HST := Lib.hid hst
  have HRG := Lib.hid hrg
  clear hs hrd hst hrg
  by_cases hg : 200 < ds.length
  · go_enter Tryd.func5, Tryd.ntmps5
    go_wp2_with (go_at_call 15; refine (lives_any _ HS.out).mono ?_; rintro e wl ⟨rfl, hbl⟩)
    go_ret
    exact ⟨rfl, hbl⟩
  · go_enter Tryd.func5, Tryd.ntmps5
    go_wp2_with fail
    obtain ⟨h, eh⟩ : ∃ h, 1 + hold % 100 = h := ⟨_, rfl⟩
    have hh1 : 1 ≤ h ∧ h ≤ 100 := by omega
    obtain ⟨hh1, hh2⟩ := hh1
    rw [eh]
    clear eh hh
    go_at_call 11
    refine (net_any safe h _ HS.out ⟨hh1, hh2⟩).mono ?_
    rintro e wn ⟨p, rfl, hna, hbn⟩
    have NV := Lib.hid (NetV.of hna)
    have HB := Lib.hid hbn
    clear hna hbn
    go_wp2_with fail
    refine gen_wp (fun W => Hid (Blk W wn.heap.size 27 #[.bool false, .int .u32 0, .int .u32 0, .int .i64 0]) ∧ Hid (Below wn.heap.size wn W)) ⟨Lib.hid (Blk.new_ wn _ _ rfl), Lib.hid (ba _ _)⟩ ?_
    obtain ⟨S, eS⟩ : ∃ S, wn.heap.size = S := ⟨_, rfl⟩
    rw [eS]
    rintro W ⟨KS, HW⟩
    have HH9 : Hid (∀ x ∈ ([⟨0, safe, h⟩] : List Stn), 1 ≤ x.hold ∧ x.hold ≤ 100) := Lib.hid (by intro x hx; simp at hx; subst hx; exact ⟨hh1, hh2⟩)
    go_loopg [10, 11, 12, 13, 14, 15, 16, 17, 18, 19, 20] ds.length (fun g s10 s11 s12 s13 _ _ _ _ _ _ _ wr => ∃ (k : Nat) (R last sn : Int) (s : ASt), g = ds.length - k ∧ k ≤ ds.length ∧ s13 = .int .i64 k ∧ s10 = .int .i64 R ∧ s11 = .int .i64 last ∧ s12 = .int .i64 sn ∧ R ≤ 50 * k ∧ Hid (RunInv ds s last sn R k) ∧ Hid (Blk wr S 27 #[.bool s.any, .int .u32 s.seq, .int .u32 s.val, .int .i64 s.round]) ∧ Hid (Below S wn wr))
    case atStart => exact ⟨0, 0, -1, 0, ⟨false, 0, 0, 0⟩, by omega, by omega, rfl, rfl, rfl, rfl, by omega, Lib.hid ⟨by decide, by decide, by decide, by decide, by decide, .inl ⟨rfl, rfl⟩⟩, KS, HW⟩
    case round =>
      obtain ⟨k, R, last, sn, s, rfl, hk, rfl, rfl, rfl, rfl, hR, HI, KR, HBR⟩ := hrel
      have hsl := KR.out.lt
      by_cases hlt : k < ds.length
      · have hltk : (k : Int) < (ds.length : Int) := by omega
        have HRK := Lib.hid ((HRD.out.below HB.out).below (by rw [eS]; exact HBR.out))
        obtain ⟨b, off, d, rfl, hd, c0, c1, c2, c3, c4, c5, c6, c7, c8⟩ := HRK.out.del hlt
        have HD := Lib.hid hd
        have hdst := HST.out d (List.mem_of_getElem? hd)
        obtain ⟨y0, y1, y2, y3⟩ := box4 KR.out
        obtain ⟨is, at_, kind, station, dseq, value, pair, command, dround⟩ := d
        dsimp only at c0 c1 c2 c3 c4 c5 c6 c7 c8 hdst
        obtain ⟨any, seq, val, sround⟩ := s
        dsimp only at y0 y1 y2 y3
        have i1 := HI.out.lo
        have i2 := HI.out.hi
        have i3 := HI.out.r0
        dsimp only at i1 i2
        obtain ⟨r, er⟩ : ∃ r, (IntKind.u64.wrap dround).tmod 50 = r := ⟨_, rfl⟩
        have hr := u64mod50 dround
        rw [er] at hr
        obtain ⟨hr0, hr1⟩ := hr
        obtain ⟨hdst0, hdst1⟩ := hdst
        clear hd
        go_upto_if 58 with fail
        obtain ⟨R2, eR2⟩ : ∃ R2, R + r = R2 := ⟨_, rfl⟩
        have hR2 : R ≤ R2 ∧ R2 ≤ 50 * (k + 1) := by omega
        obtain ⟨hR2a, hR2b⟩ := hR2
        rw [eR2]
        clear er eR2
        refine gen_wp (fun V => Hid (Blk V wr.heap.size 36 #[.bool is, .int .i64 at_, .int .u8 kind, .int .u8 station, .int .u32 dseq, .int .u32 value, .int .i64 pair, .int .i64 command, .int .i64 R2]) ∧ Hid (Blk V S 27 #[.bool any, .int .u32 seq, .int .u32 val, .int .i64 sround]) ∧ Hid (Below S wn V)) ⟨Lib.hid (Blk.new_ wr _ _ rfl), Lib.hid (KR.out.alloc _), Lib.hid (HBR.out.alloc (by have := HBR.out.size; omega) _)⟩ ?_
        obtain ⟨D, eD⟩ : ∃ D, wr.heap.size = D := ⟨_, rfl⟩
        have hDS : S < D := by omega
        rw [eD]
        rintro V ⟨KD, KV, HBV⟩
        have HI2 := Lib.hid (inv_more HI.out hR2a (Nat.le_refl k))
        obtain ⟨t7, e7⟩ : ∃ t, (at_.tmod 7 == 3) = t := ⟨_, rfl⟩
        rw [e7]
        clear e7 c0 c1 c2 c3 c4 c5 c6 c7 c8 y0 y1 y2 y3
        obtain ⟨y0, y1, y2, y3⟩ := box4 KV.out
        have f0 := KV.out.frozen 0
        have f1 := KV.out.frozen 1
        have f2 := KV.out.frozen 2
        have f3 := KV.out.frozen 3
        have hlS := KV.out.lt
        have hlD := KD.out.lt
        go_cut [12] (fun s12 wx => CutRun ds last R2 k S D wn (.bool is) at_ kind station dseq value pair command s12 wx)
        case first =>
          cases t7
          · go_wp2_with fail
            go_meet
            exact ⟨sn, ⟨any, seq, val, sround⟩, rfl, HI2.out, KV.out, KD.out, HBV.out⟩
          · have HST1 := Lib.hid (stale_raw any seq val sround V)
            go_wp2_with fail
            go_at_call 19
            refine (HST1.out).mono ?_
            rintro e v1 ⟨rfl, hb1⟩
            have k1 := KV.out.below hb1
            have kd1 := KD.out.below hb1
            clear y0 y1 y2 y3 f0 f1 f2 f3
            obtain ⟨y0, y1, y2, y3⟩ := box4 k1
            have f0 := k1.frozen 0
            have f1 := k1.frozen 1
            have f2 := k1.frozen 2
            have f3 := k1.frozen 3
            have hl1 := k1.lt
            have K1 := Lib.hid k1
            have KD1 := Lib.hid kd1
            have HB1 := Lib.hid (HBV.out.trans (hb1.mono (Nat.le_of_lt KV.out.lt)))
            clear k1 kd1 hb1
            go_wp2_with fail
            refine gen_world (fun V2 => Hid (Blk V2 S 27 #[.bool any, .int .u32 seq, .int .u32 val, .int .i64 (-100)]) ∧ Hid (Blk V2 D 36 #[.bool is, .int .i64 at_, .int .u8 kind, .int .u8 station, .int .u32 dseq, .int .u32 value, .int .i64 pair, .int .i64 command, .int .i64 R2]) ∧ Hid (Below S wn V2)) ⟨Lib.hid (set4_blk K1.out), Lib.hid ((((KD1.out.far (by dsimp only; omega) _).far (by dsimp only; omega) _).far (by dsimp only; omega) _).far (by dsimp only; omega) _), Lib.hid ((((HB1.out.setCell (by simp) _).setCell (by simp) _).setCell (by simp) _).setCell (by simp) _)⟩ ?_
            rintro V2 ⟨K2, KD2, HB2⟩
            clear y0 y1 y2 y3 f0 f1 f2 f3 hl1 hlS hlD
            have HO1 := Lib.hid fun (V3 : World) (hb : Below S wn V3) => output_any (.pointer (some ⟨p, 0, none⟩)) [⟨0, safe, h⟩] 0 ⟨any, seq, val, -100⟩ R2 V3 (HS.out.below (Below.then_ HB.out (by rw [eS]; exact hb))) (NV.out.below (by rw [eS]; exact hb)) ⟨by omega, by omega⟩ ⟨by simp, by simp⟩ HH9.out
            have HO2 := Lib.hid fun (V3 : World) (hb : Below S wn V3) => output_any (.pointer (some ⟨p, 0, none⟩)) [⟨0, safe, h⟩] 0 ⟨any, seq, val, -100⟩ 0 V3 (HS.out.below (Below.then_ HB.out (by rw [eS]; exact hb))) (NV.out.below (by rw [eS]; exact hb)) ⟨by simp, by simp⟩ ⟨by simp, by simp⟩ HH9.out
            rw [stale_out (s := ⟨any, seq, val, sround⟩) safe hh2 (by omega)] at HO1
            rw [stale_out (s := ⟨any, seq, val, sround⟩) safe hh2 (by omega)] at HO2
            go_at_call 14
            refine (HO1.out V2 HB2.out).mono ?_
            rintro e v3 ⟨rfl, hb3⟩
            have k3 := K2.out.below hb3
            obtain ⟨y0, y1, y2, y3⟩ := box4 k3
            have HB3 := Lib.hid (HB2.out.trans (hb3.mono (Nat.le_of_lt K2.out.lt)))
            have K3 := Lib.hid k3
            have KD3 := Lib.hid (KD2.out.below hb3)
            clear k3 hb3
            go_wp2_with fail
            go_at_call 14
            refine (HO2.out v3 HB3.out).mono ?_
            rintro e v4 ⟨rfl, hb4⟩
            go_wp2_with fail
            go_meet
            exact ⟨-1000, ⟨any, seq, val, -100⟩, rfl, inv_stale HI2.out, K3.out.below hb4, KD3.out.below hb4, HB3.out.trans (hb4.mono (Nat.le_of_lt K3.out.lt))⟩
        case rest =>
          clear y0 y1 y2 y3 f0 f1 f2 f3 hlS hlD KD KV HBV HI2 HI KR HBR HRK hsl i1 i2 i3 hR
          obtain ⟨sn, ⟨any, seq, val, sround⟩, rfl, hi, ks, kd, hb⟩ := hcut
          dsimp only at ks
          have HI := Lib.hid hi
          have i1 := hi.lo
          have i2 := hi.hi
          have i3 := hi.r0
          dsimp only at i1 i2
          have KS := Lib.hid ks
          have KD := Lib.hid kd
          have HBC := Lib.hid hb
          obtain ⟨y0, y1, y2, y3⟩ := box4 ks
          obtain ⟨q0, q1, q2, q3, q4, q5, q6, q7, q8⟩ := box9 kd
          have hlS := ks.lt
          have hlD := kd.lt
          have HTK := Lib.hid (take_any (.pointer (some ⟨p, 0, none⟩)) [⟨0, safe, h⟩] 0 ⟨any, seq, val, sround⟩ ⟨is, at_, kind, station, dseq, value, pair, command, R2⟩ wc (HS.out.below (Below.then_ HB.out (by rw [eS]; exact hb))) (NV.out.below (by rw [eS]; exact hb)) ⟨hdst0, hdst1⟩)
          clear hi ks kd hb
          obtain ⟨ok, hok⟩ : ∃ ok, takeOk [⟨0, safe, h⟩] 0 ⟨any, seq, val, sround⟩ ⟨is, at_, kind, station, dseq, value, pair, command, R2⟩ = ok := ⟨_, rfl⟩
          obtain ⟨⟨tany, tseq, tval, tround⟩, hts⟩ : ∃ t, takeS [⟨0, safe, h⟩] 0 ⟨any, seq, val, sround⟩ ⟨is, at_, kind, station, dseq, value, pair, command, R2⟩ = t := ⟨_, rfl⟩
          rw [hts, hok] at HTK
          have HOK := Lib.hid hok
          have HTS := Lib.hid hts
          simp only [ASt.V, ADl.V, ADl.cells] at HTK
          clear hok hts
          go_wp2_with fail
          go_at_call 12
          refine (HTK.out).mono ?_
          rintro e v1 ⟨rfl, hb1⟩
          have K1 := Lib.hid (KS.out.below hb1)
          have KD1 := Lib.hid (KD.out.below hb1)
          have HB1 := Lib.hid (HBC.out.trans (hb1.mono (Nat.le_of_lt KS.out.lt)))
          have hz1 : wc.heap.size ≤ v1.heap.size := hb1.size
          clear hb1 y0 y1 y2 y3 q0 q1 q2 q3 q4 q5 q6 q7 q8
          go_upto_if 81 with fail
          refine gen_wp (fun V => Hid (Blk V S 27 #[.bool any, .int .u32 seq, .int .u32 val, .int .i64 sround]) ∧ Hid (Blk V D 36 #[.bool is, .int .i64 at_, .int .u8 kind, .int .u8 station, .int .u32 dseq, .int .u32 value, .int .i64 pair, .int .i64 command, .int .i64 R2]) ∧ Hid (Blk V v1.heap.size 27 #[.bool tany, .int .u32 tseq, .int .u32 tval, .int .i64 tround]) ∧ Hid (Below S wn V)) ⟨Lib.hid (K1.out.alloc _), Lib.hid (KD1.out.alloc _), Lib.hid (Blk.new_ v1 _ _ rfl), Lib.hid (HB1.out.alloc (by omega) _)⟩ ?_
          obtain ⟨T, eT⟩ : ∃ T, v1.heap.size = T := ⟨_, rfl⟩
          have hTS : S < T := by omega
          have hTD : D < T := by omega
          rw [eT]
          rintro V ⟨KS2, KD2, KT2, HB2⟩
          clear HTK K1 KD1 HB1 KS KD HBC hz1 hlS hlD
          go_cut [11, 12] (fun s11 s12 wx => CutRun2 ds R2 k S T wn tany tseq tval tround s11 s12 wx)
          case first =>
            obtain ⟨y0, y1, y2, y3⟩ := box4 KS2.out
            obtain ⟨x0, x1, x2, x3⟩ := box4 KT2.out
            have hlS := KS2.out.lt
            have hlT := KT2.out.lt
            cases ok
            · have e0 : (⟨tany, tseq, tval, tround⟩ : ASt) = ⟨any, seq, val, sround⟩ := by rw [← HTS.out, takeS, HOK.out]; rfl
              injection e0 with e1 e2 e3 e4
              subst e1 e2 e3 e4
              go_wp2_with fail
              go_meet
              exact ⟨last, sn, rfl, rfl, inv_more HI.out (by omega) (by omega), ⟨_, _, _, _, KS2.out⟩, KT2.out, HB2.out⟩
            · have e0 : (⟨tany, tseq, tval, tround⟩ : ASt) = ⟨true, dseq, value, R2⟩ := by rw [← HTS.out, takeS, HOK.out]; rfl
              injection e0 with e1 e2 e3 e4
              have e2 := e2.symm
              have e3 := e3.symm
              have e4 := e4.symm
              subst e1 e2 e3 e4
              have htk := taken HOK.out
              obtain ⟨h1, h2, h3, h4, h5, h6⟩ := htk
              dsimp only at h1 h2 h3 h4 h5 h6
              subst h1 h2 h3 h5
              have H6 := Lib.hid h6
              clear h6
              obtain ⟨q0, q1, q2, q3, q4, q5, q6, q7, q8⟩ := box9 KD2.out
              have hlD := KD2.out.lt
              have HT2 : Hid (∀ V3 : World, Below S wn V3 → Calls Tryd.prog 12 #[.pointer (some ⟨p, 0, none⟩), .int .i64 0, .agg #[.bool true, .int .u32 dseq, .int .u32 value, .int .i64 R2], .agg #[.bool true, .int .i64 at_, .int .u8 2, .int .u8 0, .int .u32 dseq, .int .u32 value, .int .i64 pair, .int .i64 pair, .int .i64 R2]] V3 fun e w' => e = .returned (.tuple #[.agg #[.bool true, .int .u32 dseq, .int .u32 value, .int .i64 R2], .bool false]) ∧ Below V3.heap.size V3 w') := Lib.hid fun V3 hb => by
                have ht := take_any (.pointer (some ⟨p, 0, none⟩)) [⟨0, safe, h⟩] 0 ⟨true, dseq, value, R2⟩ ⟨true, at_, 2, 0, dseq, value, pair, pair, R2⟩ V3 (HS.out.below (Below.then_ HB.out (by rw [eS]; exact hb))) (NV.out.below (by rw [eS]; exact hb)) ⟨by simp, by simp⟩
                have h2 : takeOk [⟨0, safe, h⟩] 0 ⟨true, dseq, value, R2⟩ ⟨true, at_, 2, 0, dseq, value, pair, pair, R2⟩ = false := twice (d := ⟨true, at_, 2, 0, dseq, value, pair, pair, R2⟩) (R := R2)
                rw [takeS, h2] at ht
                exact ht
              have HNEW := Lib.hid (inv_take (d := ⟨true, at_, 2, 0, dseq, value, pair, pair, dround⟩) HD.out (R := R2) (by omega))
              have g4 : decide (pair < 0) = false := by simp; omega
              rcases HI.out.ty with ⟨rfl, hany⟩ | ⟨j, dj, rfl, hjk, hdj, hany, hsq, _, _⟩
              · go_upto_region 25 with fail
                refine wp_region_quiet_lit (by kernel_rfl) (by kernel_rfl) ?_
                repeat (go_big_quiet_step (fail))
                refine wpQuiet_nil ?_
                intro _ hw'
                obtain ⟨nq, hw''⟩ := hw'
                subst hw''
                go_wp2_with fail
                go_at_call 12
                refine (HT2.out _ ?_).mono ?_
                · exact below_drewN (HB2.out.alloc (by omega) _) _
                rintro e v3 ⟨rfl, hb3⟩
                go_wp2_with fail
                go_meet
                exact ⟨k, R2, rfl, rfl, HNEW.out, ⟨_, _, _, _, ((KS2.out.below (below_drewN (ba V _) _)).below hb3).alloc _⟩, ((KT2.out.below (below_drewN (ba V _) _)).below hb3).alloc _, ((HB2.out.trans ((below_drewN (ba V _) _).mono (by omega))).trans (hb3.mono (by simp; omega))).alloc (by have := hb3.size; simp at this; omega) _⟩
              · dsimp only at hany hsq
                have h9 := H6.out hany
                rw [hsq] at h9
                have HRV := Lib.hid ((HRD.out.below HB.out).below (by rw [eS]; exact HB2.out))
                obtain ⟨b', off', dj', eb, hdj', g0, g1, g2, g3, g4, g5, g6, g7, g8⟩ := HRV.out.del (show j < ds.length by omega)
                cases eb
                rw [hdj] at hdj'
                cases hdj'
                clear hdj hsq hany
                have g44 : V.cell? ⟨b, off + j * 9 + 2 + 2, none⟩ = some (.int .u32 dj.seq) := by simpa [Nat.add_assoc] using g4
                have hblt := cell_lt g44
                have hjl : (j : Int) < (ds.length : Int) := by omega
                have hj0 : (0 : Int) ≤ (j : Int) := by omega
                have hj1 : decide ((0 : Int) ≤ (j : Int)) = true := by simp
                go_upto_region 25 with fail
                refine wp_region_quiet_lit (by kernel_rfl) (by kernel_rfl) ?_
                repeat (go_big_quiet_step (fail))
                refine wpQuiet_nil ?_
                intro _ hw'
                obtain ⟨nq, hw''⟩ := hw'
                subst hw''
                go_wp2_with fail
                go_at_call 12
                refine (HT2.out _ ?_).mono ?_
                · exact below_drewN (HB2.out.alloc (by omega) _) _
                rintro e v3 ⟨rfl, hb3⟩
                go_wp2_with fail
                go_meet
                exact ⟨k, R2, rfl, rfl, HNEW.out, ⟨_, _, _, _, ((KS2.out.below (below_drewN (ba V _) _)).below hb3).alloc _⟩, ((KT2.out.below (below_drewN (ba V _) _)).below hb3).alloc _, ((HB2.out.trans ((below_drewN (ba V _) _).mono (by omega))).trans (hb3.mono (by simp; omega))).alloc (by have := hb3.size; simp at this; omega) _⟩
          case rest =>
            obtain ⟨last2, sn2, rfl, rfl, hi2, ⟨z0, z1, z2, z3, ksz⟩, kt, hbz⟩ := hcut
            have HI2 := Lib.hid hi2
            obtain ⟨x0, x1, x2, x3⟩ := box4 kt
            have f0 := ksz.frozen 0
            have f1 := ksz.frozen 1
            have f2 := ksz.frozen 2
            have f3 := ksz.frozen 3
            obtain ⟨y0, y1, y2, y3⟩ := box4 ksz
            have hlS := ksz.lt
            have hlT := kt.lt
            have KZ := Lib.hid ksz
            have HBZ := Lib.hid hbz
            have j1 := hi2.lo
            have j2 := hi2.hi
            have j3 := hi2.snl
            have j4 := hi2.snh
            dsimp only at j1 j2
            have HO1 := Lib.hid fun (V3 : World) (hb : Below S wn V3) => output_any (.pointer (some ⟨p, 0, none⟩)) [⟨0, safe, h⟩] 0 ⟨tany, tseq, tval, tround⟩ R2 V3 (HS.out.below (Below.then_ HB.out (by rw [eS]; exact hb))) (NV.out.below (by rw [eS]; exact hb)) ⟨by omega, by omega⟩ ⟨by dsimp only; omega, by dsimp only; omega⟩ HH9.out
            have HO2 := Lib.hid fun (V3 : World) (hb : Below S wn V3) => output_any (.pointer (some ⟨p, 0, none⟩)) [⟨0, safe, h⟩] 1 ⟨tany, tseq, tval, tround⟩ R2 V3 (HS.out.below (Below.then_ HB.out (by rw [eS]; exact hb))) (NV.out.below (by rw [eS]; exact hb)) ⟨by omega, by omega⟩ ⟨by dsimp only; omega, by dsimp only; omega⟩ HH9.out
            rw [inv_out hi2 safe hh1 hh2] at HO1
            rw [out_two] at HO2
            simp only [ASt.V] at HO1 HO2
            have hty := hi2.ty
            clear hi2 ksz kt hbz HI KS2 KD2 KT2 HB2
            go_upto_region 35 with fail
            refine gen_wp (fun V2 => Hid (Blk V2 S 27 #[.bool tany, .int .u32 tseq, .int .u32 tval, .int .i64 tround]) ∧ Hid (Below S wn V2)) ⟨Lib.hid (set4_blk KZ.out), Lib.hid ((((HBZ.out.setCell (by simp) _).setCell (by simp) _).setCell (by simp) _).setCell (by simp) _)⟩ ?_
            rintro V2 ⟨K2, HB2⟩
            clear x0 x1 x2 x3 y0 y1 y2 y3 f0 f1 f2 f3 hlS hlT KZ HBZ
            obtain ⟨y0, y1, y2, y3⟩ := box4 K2.out
            rcases hty with ⟨rfl, -⟩ | ⟨j, dj, rfl, hjk, hdj, -⟩
            · rw [show wantE safe h ds (-1) sn2 R2 = safe from rfl] at HO1
              go_wp2_with fail
              go_at_call 14
              refine (HO1.out V2 HB2.out).mono ?_
              rintro e v3 ⟨rfl, hb3⟩
              have k3 := K2.out.below hb3
              obtain ⟨y0, y1, y2, y3⟩ := box4 k3
              have HB3 := Lib.hid (HB2.out.trans (hb3.mono (Nat.le_of_lt K2.out.lt)))
              have K3 := Lib.hid k3
              clear k3 hb3
              go_wp2_with fail
              go_at_call 14
              refine (HO2.out v3 HB3.out).mono ?_
              rintro e v4 ⟨rfl, hb4⟩
              go_wp2_with fail
              go_roundg (ds.length - (k + 1))
              case measure => omega
              case rel => exact ⟨k + 1, R2, -1, sn2, ⟨tany, tseq, tval, tround⟩, rfl, by omega, by go_num, rfl, rfl, rfl, by omega, HI2, Lib.hid (K3.out.below hb4), Lib.hid (HB3.out.trans (hb4.mono (Nat.le_of_lt K3.out.lt)))⟩
            · have HRV := Lib.hid ((HRD.out.below HB.out).below (by rw [eS]; exact HB2.out))
              obtain ⟨b', off', dj', eb, hdj', g0, g1, g2, g3, g4, g5, g6, g7, g8⟩ := HRV.out.del (show j < ds.length by omega)
              cases eb
              rw [hdj] at hdj'
              cases hdj'
              have hwant : wantE safe h ds j sn2 R2 = if R2 - sn2 < h then dj.value else safe := by
                rw [wantE, if_neg (by omega), Int.toNat_natCast, hdj]
              rw [hwant] at HO1
              clear hdj hwant
              have g55 : V2.cell? ⟨b, off + j * 9 + 2 + 3, none⟩ = some (.int .u32 dj.value) := by simpa [Nat.add_assoc] using g5
              have hblt := cell_lt g55
              have hjl : (j : Int) < (ds.length : Int) := by omega
              have hj0 : (0 : Int) ≤ (j : Int) := by omega
              have hj1 : decide ((0 : Int) ≤ (j : Int)) = true := by simp
              by_cases hw : R2 - sn2 < h
              · rw [if_pos hw] at HO1
                go_wp2_with fail
                go_at_call 14
                refine (HO1.out V2 HB2.out).mono ?_
                rintro e v3 ⟨rfl, hb3⟩
                have k3 := K2.out.below hb3
                obtain ⟨y0, y1, y2, y3⟩ := box4 k3
                have HB3 := Lib.hid (HB2.out.trans (hb3.mono (Nat.le_of_lt K2.out.lt)))
                have K3 := Lib.hid k3
                clear k3 hb3
                go_wp2_with fail
                go_at_call 14
                refine (HO2.out v3 HB3.out).mono ?_
                rintro e v4 ⟨rfl, hb4⟩
                go_wp2_with fail
                go_roundg (ds.length - (k + 1))
                case measure => omega
                case rel => exact ⟨k + 1, R2, (j : Int), sn2, ⟨tany, tseq, tval, tround⟩, rfl, by omega, by go_num, rfl, rfl, rfl, by omega, HI2, Lib.hid (K3.out.below hb4), Lib.hid (HB3.out.trans (hb4.mono (Nat.le_of_lt K3.out.lt)))⟩
              · rw [if_neg hw] at HO1
                go_wp2_with fail
                go_at_call 14
                refine (HO1.out V2 HB2.out).mono ?_
                rintro e v3 ⟨rfl, hb3⟩
                have k3 := K2.out.below hb3
                obtain ⟨y0, y1, y2, y3⟩ := box4 k3
                have HB3 := Lib.hid (HB2.out.trans (hb3.mono (Nat.le_of_lt K2.out.lt)))
                have K3 := Lib.hid k3
                clear k3 hb3
                go_wp2_with fail
                go_at_call 14
                refine (HO2.out v3 HB3.out).mono ?_
                rintro e v4 ⟨rfl, hb4⟩
                go_wp2_with fail
                go_roundg (ds.length - (k + 1))
                case measure => omega
                case rel => exact ⟨k + 1, R2, (j : Int), sn2, ⟨tany, tseq, tval, tround⟩, rfl, by omega, by go_num, rfl, rfl, rfl, by omega, HI2, Lib.hid (K3.out.below hb4), Lib.hid (HB3.out.trans (hb4.mono (Nat.le_of_lt K3.out.lt)))⟩
      · obtain rfl : k = ds.length := by omega
        go_wp2_with (go_at_call 15; refine (lives_any _ (HS.out.below (Below.then_ HB.out (by rw [eS]; exact HBR.out)))).mono ?_; rintro e wl ⟨rfl, hbl⟩)
        go_ret
        exact ⟨rfl, Below.then_ (Below.then_ HB.out (by rw [eS]; exact HBR.out)) hbl⟩
end Go.Proofs.YtmpkpikamogpdaaDoor.K
