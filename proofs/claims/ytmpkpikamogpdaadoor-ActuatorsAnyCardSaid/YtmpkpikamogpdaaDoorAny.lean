/- sennitlaw26.ActuatorsAny answers true. -/
import Derived.Test.YtmpkpikamogpdaaDoorRef26
import Derived.Test.YtmpkpikamogpdaaDoorRef4c
import Derived.Test.YtmpkpikamogpdaaDoorLives
import Derived.Test.YtmpkpikamogpdaaDoorGrow
namespace Go.Proofs.YtmpkpikamogpdaaDoor.K
open Go.RowKit

theorem takeOk_nil (i : Int) (s : ASt) (d : ADl) : takeOk [] i s d = false := by
  have : stnAt [] i = none := by unfold stnAt; split <;> simp
  simp [takeOk, this, cond1]
theorem outE_nil (i : Int) (s : ASt) (r : Int) : outE [] i s r = 0 := by
  have : stnAt [] i = none := by unfold stnAt; split <;> simp
  simp [outE, this]

set_option maxRecDepth 100000 in
set_option maxHeartbeats 8000000 in
theorem lawAny_great (n : Int) (A1 : Option Addr) (c1 : Nat) (ps : List Int) (A2 : Option Addr) (c2 : Nat) (ss : List Int) (long : Int) (A3 : Option Addr) (c3 : Nat) (bs : List Int) (A4 : Option Addr) (c4 : Nat) (st : List Stn) (miss good fresh : Int) (T : Array Value) (w : World) (hs : Signs w) (hg : 60 < ps.length ∨ 60 < ss.length ∨ 60 < bs.length ∨ 60 < st.length) :
    Calls Tryd.prog 4 #[(.agg #[.int .i64 n, .slice A1 ps.length c1, .slice A2 ss.length c2, .int .i64 long, .slice A3 bs.length c3, .slice A4 st.length c4, .int .i64 miss, .int .i64 good, .int .i64 fresh]), .agg T] w fun e w' => e = .returned (.bool true) ∧ Below w.heap.size w w' := by
  have HS := Lib.hid hs
  clear hs
  by_cases h1 : 60 < ps.length
  · go_enter Tryd.func4, Tryd.ntmps4
    go_wp2_with (go_at_call 15; refine (lives_any _ (HS.out.below (Below.allocW (ba _ _) _))).mono ?_; rintro e wl ⟨rfl, hbl⟩)
    go_ret
    exact ⟨rfl, Below.then_ (Below.allocW (ba _ _) _) hbl⟩
  · by_cases h2 : 60 < ss.length
    · go_enter Tryd.func4, Tryd.ntmps4
      go_wp2_with (go_at_call 15; refine (lives_any _ (HS.out.below (Below.allocW (ba _ _) _))).mono ?_; rintro e wl ⟨rfl, hbl⟩)
      go_ret
      exact ⟨rfl, Below.then_ (Below.allocW (ba _ _) _) hbl⟩
    · by_cases h3 : 60 < bs.length
      · go_enter Tryd.func4, Tryd.ntmps4
        go_wp2_with (go_at_call 15; refine (lives_any _ (HS.out.below (Below.allocW (ba _ _) _))).mono ?_; rintro e wl ⟨rfl, hbl⟩)
        go_ret
        exact ⟨rfl, Below.then_ (Below.allocW (ba _ _) _) hbl⟩
      · have h4 : 60 < st.length := by omega
        go_enter Tryd.func4, Tryd.ntmps4
        go_wp2_with (go_at_call 15; refine (lives_any _ (HS.out.below (Below.allocW (ba _ _) _))).mono ?_; rintro e wl ⟨rfl, hbl⟩)
        go_ret
        exact ⟨rfl, Below.then_ (Below.allocW (ba _ _) _) hbl⟩

theorem box15 {w : World} {b : Nat} {v0 v1 v2 v3 v4 v5 v6 v7 v8 v9 v10 v11 v12 v13 v14 : Value} {t : TypeId} (h : Blk w b t #[v0, v1, v2, v3, v4, v5, v6, v7, v8, v9, v10, v11, v12, v13, v14]) :
    w.cell? ⟨b, 0, none⟩ = some v0 ∧ w.cell? ⟨b, 1, none⟩ = some v1 ∧ w.cell? ⟨b, 2, none⟩ = some v2 ∧ w.cell? ⟨b, 3, none⟩ = some v3 ∧ w.cell? ⟨b, 4, none⟩ = some v4 ∧ w.cell? ⟨b, 5, none⟩ = some v5 ∧ w.cell? ⟨b, 6, none⟩ = some v6 ∧ w.cell? ⟨b, 7, none⟩ = some v7 ∧ w.cell? ⟨b, 8, none⟩ = some v8 ∧ w.cell? ⟨b, 9, none⟩ = some v9 ∧ w.cell? ⟨b, 10, none⟩ = some v10 ∧ w.cell? ⟨b, 11, none⟩ = some v11 ∧ w.cell? ⟨b, 12, none⟩ = some v12 ∧ w.cell? ⟨b, 13, none⟩ = some v13 ∧ w.cell? ⟨b, 14, none⟩ = some v14 :=
  ⟨h.cell 0, h.cell 1, h.cell 2, h.cell 3, h.cell 4, h.cell 5, h.cell 6, h.cell 7, h.cell 8, h.cell 9, h.cell 10, h.cell 11, h.cell 12, h.cell 13, h.cell 14⟩

/-- A trial's fifteen cells. -/
def trialCells (i : Int) (s : ASt) (d : ADl) (r : Int) : Array Value :=
  #[.int .i64 i, .bool s.any, .int .u32 s.seq, .int .u32 s.val, .int .i64 s.round, .bool d.is, .int .i64 d.at_, .int .u8 d.kind, .int .u8 d.station, .int .u32 d.seq, .int .u32 d.value, .int .i64 d.pair, .int .i64 d.command, .int .i64 d.round, .int .i64 r]

set_option maxRecDepth 100000 in
set_option maxHeartbeats 8000000 in
theorem lawAny_bad (n : Int) (A1 : Option Addr) (c1 : Nat) (ps : List Int) (A2 : Option Addr) (c2 : Nat) (ss : List Int) (long : Int) (A3 : Option Addr) (c3 : Nat) (bs : List Int) (A4 : Option Addr) (c4 : Nat) (st : List Stn) (miss good fresh : Int) (i : Int) (s : ASt) (d : ADl) (r : Int) (w : World) (hc : CfgIn w A1 ps A2 ss A3 bs A4 st) (g1 : ps.length ≤ 60) (g2 : ss.length ≤ 60) (g3 : bs.length ≤ 60) (g4 : st.length ≤ 60)
    (hb : newE ⟨n, ps, ss, long, bs, st, miss, good, fresh⟩ ≠ 0) (hr : I64 r) (hsr : I64 s.round) (hd : 0 ≤ d.station ∧ d.station < 256) :
    Calls Tryd.prog 4 #[(.agg #[.int .i64 n, .slice A1 ps.length c1, .slice A2 ss.length c2, .int .i64 long, .slice A3 bs.length c3, .slice A4 st.length c4, .int .i64 miss, .int .i64 good, .int .i64 fresh]), .agg (trialCells i s d r)] w fun e w' => e = .returned (.bool true) ∧ Below w.heap.size w w' := by
  obtain ⟨any, seq, val, round⟩ := s
  obtain ⟨is, at_, kind, station, dseq, value, pair, command, dround⟩ := d
  simp only [trialCells]
  have HC := Lib.hid hc
  have HB := Lib.hid hb
  have HN := Lib.hid fun (W : World) (hb' : Below w.heap.size w W) => new_bad n A1 c1 ps A2 c2 ss long A3 c3 bs A4 c4 st miss good fresh W (hc.below hb') hb
  have HR4 := Lib.hid fun (W : World) (hb' : Below w.heap.size w W) => refNew_any n A1 c1 ps A2 c2 ss long A3 c3 bs A4 c4 st miss good fresh W (hc.below hb')
  obtain ⟨E, hE⟩ : ∃ E, newE ⟨n, ps, ss, long, bs, st, miss, good, fresh⟩ = E := ⟨_, rfl⟩
  rw [hE] at HN HR4
  have hE0 : (E != 0) = true := by rw [← hE]; simpa using hb
  have hEE : (E != E) = false := by simp
  clear hc hb hE
  go_enter Tryd.func4, Tryd.ntmps4
  go_wp2_with fail
  go_at_call 16
  refine (HN.out _ (by exact Below.allocW (ba _ _) _)).mono ?_
  rintro e w1 ⟨rfl, hb1⟩
  have k0 := ((Blk.new_ w 44 #[.int .i64 n, .slice A1 ps.length c1, .slice A2 ss.length c2, .int .i64 long, .slice A3 bs.length c3, .slice A4 st.length c4, .int .i64 miss, .int .i64 good, .int .i64 fresh] rfl).alloc (.cells #[.int .i64 i, .bool any, .int .u32 seq, .int .u32 val, .int .i64 round, .bool is, .int .i64 at_, .int .u8 kind, .int .u8 station, .int .u32 dseq, .int .u32 value, .int .i64 pair, .int .i64 command, .int .i64 dround, .int .i64 r] 46)).below hb1
  have kt := (Blk.new_ (w.alloc (.cells #[.int .i64 n, .slice A1 ps.length c1, .slice A2 ss.length c2, .int .i64 long, .slice A3 bs.length c3, .slice A4 st.length c4, .int .i64 miss, .int .i64 good, .int .i64 fresh] 44)) 46 #[.int .i64 i, .bool any, .int .u32 seq, .int .u32 val, .int .i64 round, .bool is, .int .i64 at_, .int .u8 kind, .int .u8 station, .int .u32 dseq, .int .u32 value, .int .i64 pair, .int .i64 command, .int .i64 dround, .int .i64 r] (World.size_alloc _ _)).below hb1
  obtain ⟨q0, q1, q2, q3, q4, q5, q6, q7, q8⟩ := box9 k0
  have HB1 := Lib.hid (Below.then_ (Below.allocW (ba _ _) _) hb1)
  have K0 := Lib.hid k0
  have KT := Lib.hid kt
  clear k0 kt hb1
  go_wp2_with fail
  go_at_call 17
  refine (HR4.out _ (by exact HB1.out)).mono ?_
  rintro e w2 ⟨rfl, hb2⟩
  have kt2 := KT.out.below hb2
  clear q0 q1 q2 q3 q4 q5 q6 q7 q8
  have HB2 := Lib.hid (Below.then_ HB1.out hb2)
  have t0 := kt2.cell 0
  have t1 := kt2.cell 1
  have t2 := kt2.cell 2
  have t3 := kt2.cell 3
  have t4 := kt2.cell 4
  simp at t0 t1 t2 t3 t4
  clear hb2 K0 KT
  go_wp2_with fail
  have T2 : ∀ x : Grow w2, x.w.cell? ⟨w.heap.size + 1, 0, none⟩ = some (.int .i64 i) ∧ x.w.cell? ⟨w.heap.size + 1, 1, none⟩ = some (.bool any) ∧ x.w.cell? ⟨w.heap.size + 1, 2, none⟩ = some (.int .u32 seq) ∧ x.w.cell? ⟨w.heap.size + 1, 3, none⟩ = some (.int .u32 val) ∧ x.w.cell? ⟨w.heap.size + 1, 4, none⟩ = some (.int .i64 round) :=
    fun x => ⟨x.cell t0, x.cell t1, x.cell t2, x.cell t3, x.cell t4⟩
  refine wp_region_grow (by kernel_rfl) (by kernel_rfl) ?_
  repeat (go_big_quiet_step ((first | (go_at_call 18; exact Grow.call _ (other_raw _ _ _ _ _)) | (go_at_call 19; exact Grow.call _ (stale_raw _ _ _ _ _)) | (go_at_call 20; exact Grow.call _ (refStale_raw _ _ _ _ _)))))
  refine wpQuiet_nil ?_
  rintro w3 hx3
  have hb3 := grow_of hx3
  clear hx3
  have kt3 := kt2.below hb3
  have HB3 := Lib.hid (Below.then_ HB2.out hb3)
  have KT3 := Lib.hid kt3
  obtain ⟨u0, u1, u2, u3, u4, u5, u6, u7, u8, u9, u10, u11, u12, u13, u14⟩ := box15 kt3
  have hl3 := kt3.lt
  clear kt2 kt3 t0 t1 t2 t3 t4 T2 hb3
  go_wp2_with fail
  have ts : takeS [] i ⟨any, seq, val, round⟩ ⟨is, at_, kind, station, dseq, value, pair, command, dround⟩ = ⟨any, seq, val, round⟩ := by rw [takeS, takeOk_nil]; rfl
  have HTK := Lib.hid (take_any (.pointer none) [] i ⟨any, seq, val, round⟩ ⟨is, at_, kind, station, dseq, value, pair, command, dround⟩ (w3.alloc (.cells #[.bool is, .int .i64 at_, .int .u8 kind, .int .u8 station, .int .u32 dseq, .int .u32 value, .int .i64 pair, .int .i64 command, .int .i64 dround] 36)) ((HC.out.below (Below.allocW HB3.out _)).signs) (.inl ⟨rfl, rfl⟩) hd)
  rw [ts, takeOk_nil] at HTK
  clear ts
  go_at_call 12
  refine (HTK.out).mono ?_
  rintro e w4 ⟨rfl, hb4⟩
  simp only [ASt.V]
  have kt4 := (KT3.out.below (ba _ _)).below hb4
  clear u0 u1 u2 u3 u4 u5 u6 u7 u8 u9 u10 u11 u12 u13 u14 hl3
  obtain ⟨u0, u1, u2, u3, u4, u5, u6, u7, u8, u9, u10, u11, u12, u13, u14⟩ := box15 kt4
  have hl4 := kt4.lt
  have HB4 := Lib.hid (Below.then_ (Below.allocW HB3.out _) hb4)
  clear hb4 kt4 HTK KT3
  go_wp2_with fail
  go_at_call 14
  have HTO := Lib.hid (output_any (.pointer none) [] i ⟨any, seq, val, round⟩ r (w4.alloc (.cells #[.bool any, .int .u32 seq, .int .u32 val, .int .i64 round] 27)) ((HC.out.below (Below.allocW HB4.out _)).signs) (.inl ⟨rfl, rfl⟩) hr hsr (by simp))
  rw [outE_nil] at HTO
  refine (HTO.out).mono ?_
  rintro e w5 ⟨rfl, hb5⟩
  have HB5 := Lib.hid (Below.then_ (Below.allocW HB4.out _) hb5)
  go_wp2_with fail
  go_at_call 15
  refine (lives_any _ ((HC.out.below HB5.out).signs)).mono ?_
  rintro e wl ⟨rfl, hbl⟩
  go_wp2
  go_ret
  exact ⟨rfl, Below.then_ HB5.out hbl⟩
/-- Behind the reference's answer: where its state lies. -/
def CutAny (W : World) (tany : Bool) (tseq tval tround : Int) (ok : Bool) (s10 s11 : Value) (wx : World) : Prop :=
  ∃ g, s10 = .pointer (some ⟨g, 0, none⟩) ∧ s11 = .bool ok ∧ Blk wx g 51 #[.bool tany, .int .u32 tseq, .int .u32 tval, .int .i64 tround] ∧ Below W.heap.size W wx
theorem s12_of {W V : World} {b t d : Nat} {t1 t2 t3 : TypeId} {v0 v1 v2 v3 v4 v5 v6 v7 v8 x0 x1 x2 x3 x4 x5 x6 x7 x8 x9 x10 x11 x12 x13 x14 d0 d1 d2 d3 d4 d5 d6 d7 d8 : Value} (h1 : Blk W b t1 #[v0, v1, v2, v3, v4, v5, v6, v7, v8]) (h2 : Blk W t t2 #[x0, x1, x2, x3, x4, x5, x6, x7, x8, x9, x10, x11, x12, x13, x14]) (h3 : Blk W d t3 #[d0, d1, d2, d3, d4, d5, d6, d7, d8]) (hb : Below W.heap.size W V) :
    V.cell? ⟨b, 0, none⟩ = some v0 ∧ V.cell? ⟨b, 1, none⟩ = some v1 ∧ V.cell? ⟨b, 2, none⟩ = some v2 ∧ V.cell? ⟨b, 3, none⟩ = some v3 ∧ V.cell? ⟨b, 4, none⟩ = some v4 ∧ V.cell? ⟨b, 5, none⟩ = some v5 ∧ V.cell? ⟨b, 6, none⟩ = some v6 ∧ V.cell? ⟨b, 7, none⟩ = some v7 ∧ V.cell? ⟨b, 8, none⟩ = some v8 ∧
      V.cell? ⟨t, 0, none⟩ = some x0 ∧ V.cell? ⟨t, 1, none⟩ = some x1 ∧ V.cell? ⟨t, 2, none⟩ = some x2 ∧ V.cell? ⟨t, 3, none⟩ = some x3 ∧ V.cell? ⟨t, 4, none⟩ = some x4 ∧
      V.cell? ⟨d, 0, none⟩ = some d0 ∧ V.cell? ⟨d, 1, none⟩ = some d1 ∧ V.cell? ⟨d, 2, none⟩ = some d2 ∧ V.cell? ⟨d, 3, none⟩ = some d3 ∧ V.cell? ⟨d, 4, none⟩ = some d4 ∧ V.cell? ⟨d, 5, none⟩ = some d5 ∧ V.cell? ⟨d, 6, none⟩ = some d6 ∧ V.cell? ⟨d, 7, none⟩ = some d7 ∧ V.cell? ⟨d, 8, none⟩ = some d8 :=
  ⟨(h1.below hb).cell 0, (h1.below hb).cell 1, (h1.below hb).cell 2, (h1.below hb).cell 3, (h1.below hb).cell 4, (h1.below hb).cell 5, (h1.below hb).cell 6, (h1.below hb).cell 7, (h1.below hb).cell 8,
    (h2.below hb).cell 0, (h2.below hb).cell 1, (h2.below hb).cell 2, (h2.below hb).cell 3, (h2.below hb).cell 4,
    (h3.below hb).cell 0, (h3.below hb).cell 1, (h3.below hb).cell 2, (h3.below hb).cell 3, (h3.below hb).cell 4, (h3.below hb).cell 5, (h3.below hb).cell 6, (h3.below hb).cell 7, (h3.below hb).cell 8⟩

theorem set4_blk {W : World} {g : Nat} {t : TypeId} {z0 z1 z2 z3 v0 v1 v2 v3 : Value} (h : Blk W g t #[z0, z1, z2, z3]) :
    Blk ((((W.setCell ⟨g, 0, none⟩ v0).setCell ⟨g, 1, none⟩ v1).setCell ⟨g, 2, none⟩ v2).setCell ⟨g, 3, none⟩ v3) g t #[v0, v1, v2, v3] := by
  simpa using (((h.set_ 0 v0).set_ 1 v1).set_ 2 v2).set_ 3 v3
theorem stn_zero {n : Int} {st : List Stn} (h : rule9 n st = 0) : ∀ s ∈ st, stnE n s = 0 := by
  induction st with
  | nil => simp
  | cons a st ih =>
    rw [rule9] at h
    split at h
    · rename_i h0
      intro s hs
      rcases List.mem_cons.1 hs with rfl | hs
      · exact h0
      · exact ih h s hs
    · rename_i h0; exact absurd h h0
theorem hold_of {c : Cfg} (h : newE c = 0) : ∀ x ∈ c.stations, 1 ≤ x.hold ∧ x.hold ≤ 100 := by
  intro x hx
  have h9 := stn_zero (newE_zero h 8 (by omega)) x hx
  unfold stnE first2 at h9
  split at h9
  · exact within_zero h9
  · rename_i h0; exact absurd h9 h0

set_option maxRecDepth 100000 in
set_option maxHeartbeats 8000000 in
theorem lawAny_ok (n : Int) (A1 : Option Addr) (c1 : Nat) (ps : List Int) (A2 : Option Addr) (c2 : Nat) (ss : List Int) (long : Int) (A3 : Option Addr) (c3 : Nat) (bs : List Int) (A4 : Option Addr) (c4 : Nat) (st : List Stn) (miss good fresh : Int) (i : Int) (s : ASt) (d : ADl) (r : Int) (w : World) (hc : CfgIn w A1 ps A2 ss A3 bs A4 st) (g1 : ps.length ≤ 60) (g2 : ss.length ≤ 60) (g3 : bs.length ≤ 60) (g4 : st.length ≤ 60)
    (hb : newE ⟨n, ps, ss, long, bs, st, miss, good, fresh⟩ = 0) (hr : I64 r) (hsr : I64 s.round) (hd : 0 ≤ d.station ∧ d.station < 256) :
    Calls Tryd.prog 4 #[(.agg #[.int .i64 n, .slice A1 ps.length c1, .slice A2 ss.length c2, .int .i64 long, .slice A3 bs.length c3, .slice A4 st.length c4, .int .i64 miss, .int .i64 good, .int .i64 fresh]), .agg (trialCells i s d r)] w fun e w' => e = .returned (.bool true) ∧ Below w.heap.size w w' := by
  obtain ⟨any, seq, val, round⟩ := s
  obtain ⟨is, at_, kind, station, dseq, value, pair, command, dround⟩ := d
  simp only [trialCells]
  have hst8 := (bounds_of hb).st1
  dsimp only at hst8
  have HC := Lib.hid hc
  have HH := Lib.hid (hold_of hb)
  have HN := Lib.hid fun (W : World) (hb' : Below w.heap.size w W) => new_ok n A1 c1 ps A2 c2 ss long A3 c3 bs A4 c4 st miss good fresh W (hc.below hb') hb
  have HR4 := Lib.hid fun (W : World) (hb' : Below w.heap.size w W) => refNew_any n A1 c1 ps A2 c2 ss long A3 c3 bs A4 c4 st miss good fresh W (hc.below hb')
  rw [hb] at HR4
  clear hc hb
  go_enter Tryd.func4, Tryd.ntmps4
  go_wp2_with fail
  go_at_call 16
  refine (HN.out _ (by exact Below.allocW (ba _ _) _)).mono ?_
  rintro e w1 ⟨p, rfl, hna, _, hb1⟩
  have k0 := ((Blk.new_ w 44 #[.int .i64 n, .slice A1 ps.length c1, .slice A2 ss.length c2, .int .i64 long, .slice A3 bs.length c3, .slice A4 st.length c4, .int .i64 miss, .int .i64 good, .int .i64 fresh] rfl).alloc (.cells #[.int .i64 i, .bool any, .int .u32 seq, .int .u32 val, .int .i64 round, .bool is, .int .i64 at_, .int .u8 kind, .int .u8 station, .int .u32 dseq, .int .u32 value, .int .i64 pair, .int .i64 command, .int .i64 dround, .int .i64 r] 46)).below hb1
  have kt := (Blk.new_ (w.alloc (.cells #[.int .i64 n, .slice A1 ps.length c1, .slice A2 ss.length c2, .int .i64 long, .slice A3 bs.length c3, .slice A4 st.length c4, .int .i64 miss, .int .i64 good, .int .i64 fresh] 44)) 46 #[.int .i64 i, .bool any, .int .u32 seq, .int .u32 val, .int .i64 round, .bool is, .int .i64 at_, .int .u8 kind, .int .u8 station, .int .u32 dseq, .int .u32 value, .int .i64 pair, .int .i64 command, .int .i64 dround, .int .i64 r] (World.size_alloc _ _)).below hb1
  obtain ⟨q0, q1, q2, q3, q4, q5, q6, q7, q8⟩ := box9 k0
  have HB1 := Lib.hid (Below.then_ (Below.allocW (ba _ _) _) hb1)
  have K0 := Lib.hid k0
  have KT := Lib.hid kt
  have NV := Lib.hid (NetV.of hna)
  clear k0 kt hb1 hna
  go_wp2_with fail
  go_at_call 17
  refine (HR4.out _ (by exact HB1.out)).mono ?_
  rintro e w2 ⟨rfl, hb2⟩
  have kt2 := KT.out.below hb2
  clear q0 q1 q2 q3 q4 q5 q6 q7 q8
  have K2 := Lib.hid (K0.out.below hb2)
  have NV2 := Lib.hid (NV.out.below hb2)
  have HB2 := Lib.hid (Below.then_ HB1.out hb2)
  have t0 := kt2.cell 0
  have t1 := kt2.cell 1
  have t2 := kt2.cell 2
  have t3 := kt2.cell 3
  have t4 := kt2.cell 4
  simp at t0 t1 t2 t3 t4
  clear hb2 K0 KT NV HB1
  go_wp2_with fail
  have T2 : ∀ x : Grow w2, x.w.cell? ⟨w.heap.size + 1, 0, none⟩ = some (.int .i64 i) ∧ x.w.cell? ⟨w.heap.size + 1, 1, none⟩ = some (.bool any) ∧ x.w.cell? ⟨w.heap.size + 1, 2, none⟩ = some (.int .u32 seq) ∧ x.w.cell? ⟨w.heap.size + 1, 3, none⟩ = some (.int .u32 val) ∧ x.w.cell? ⟨w.heap.size + 1, 4, none⟩ = some (.int .i64 round) :=
    fun x => ⟨x.cell t0, x.cell t1, x.cell t2, x.cell t3, x.cell t4⟩
  refine wp_region_grow (by kernel_rfl) (by kernel_rfl) ?_
  repeat (go_big_quiet_step ((first | (go_at_call 18; exact Grow.call _ (other_raw _ _ _ _ _)) | (go_at_call 19; exact Grow.call _ (stale_raw _ _ _ _ _)) | (go_at_call 20; exact Grow.call _ (refStale_raw _ _ _ _ _)))))
  refine wpQuiet_nil ?_
  rintro w3 hx3
  have hb3 := grow_of hx3
  clear hx3
  have K3 := Lib.hid (K2.out.below hb3)
  have NV3 := Lib.hid (NV2.out.below hb3)
  have kt3 := kt2.below hb3
  have HB3 := Lib.hid (Below.then_ HB2.out hb3)
  have KT3 := Lib.hid kt3
  obtain ⟨u0, u1, u2, u3, u4, u5, u6, u7, u8, u9, u10, u11, u12, u13, u14⟩ := box15 kt3
  have hl3 := kt3.lt
  clear kt2 kt3 t0 t1 t2 t3 t4 T2 hb3 K2 NV2 HB2
  go_wp2_with fail
  have HTK := Lib.hid (take_any (.pointer (some ⟨p, 0, none⟩)) st i ⟨any, seq, val, round⟩ ⟨is, at_, kind, station, dseq, value, pair, command, dround⟩ (w3.alloc (.cells #[.bool is, .int .i64 at_, .int .u8 kind, .int .u8 station, .int .u32 dseq, .int .u32 value, .int .i64 pair, .int .i64 command, .int .i64 dround] 36)) ((HC.out.below (Below.allocW HB3.out _)).signs) (NV3.out.below (ba _ _)) hd)
  obtain ⟨⟨tany, tseq, tval, tround⟩, hts⟩ : ∃ t, takeS st i ⟨any, seq, val, round⟩ ⟨is, at_, kind, station, dseq, value, pair, command, dround⟩ = t := ⟨_, rfl⟩
  obtain ⟨ok, hok⟩ : ∃ ok, takeOk st i ⟨any, seq, val, round⟩ ⟨is, at_, kind, station, dseq, value, pair, command, dround⟩ = ok := ⟨_, rfl⟩
  rw [hts, hok] at HTK
  have HTS := Lib.hid hts
  have HOK := Lib.hid hok
  clear hts hok
  go_at_call 12
  refine (HTK.out).mono ?_
  rintro e w4 ⟨rfl, hb4⟩
  simp only [ASt.V]
  have kd4 := (Blk.new_ w3 36 #[.bool is, .int .i64 at_, .int .u8 kind, .int .u8 station, .int .u32 dseq, .int .u32 value, .int .i64 pair, .int .i64 command, .int .i64 dround] rfl).below hb4
  have hld := kd4.lt
  go_wp2_with fail
  refine gen_wp (fun W => Hid (Blk W w.heap.size 44 #[.int .i64 n, .slice A1 ps.length c1, .slice A2 ss.length c2, .int .i64 long, .slice A3 bs.length c3, .slice A4 st.length c4, .int .i64 miss, .int .i64 good, .int .i64 fresh]) ∧ Hid (Blk W (w.heap.size + 1) 46 #[.int .i64 i, .bool any, .int .u32 seq, .int .u32 val, .int .i64 round, .bool is, .int .i64 at_, .int .u8 kind, .int .u8 station, .int .u32 dseq, .int .u32 value, .int .i64 pair, .int .i64 command, .int .i64 dround, .int .i64 r]) ∧ Hid (Blk W w3.heap.size 36 #[.bool is, .int .i64 at_, .int .u8 kind, .int .u8 station, .int .u32 dseq, .int .u32 value, .int .i64 pair, .int .i64 command, .int .i64 dround]) ∧ Hid (Blk W w4.heap.size 27 #[.bool tany, .int .u32 tseq, .int .u32 tval, .int .i64 tround]) ∧ Hid (NetV W (.pointer (some ⟨p, 0, none⟩)) st) ∧ Hid (Below w.heap.size w W))
    ⟨Lib.hid (((K3.out.alloc _).below hb4).alloc _), Lib.hid (((KT3.out.alloc _).below hb4).alloc _), Lib.hid (kd4.alloc _), Lib.hid (Blk.new_ w4 _ _ rfl), Lib.hid (((NV3.out.below (ba _ _)).below hb4).below (ba _ _)), Lib.hid (Below.allocW (Below.then_ (Below.allocW HB3.out _) hb4) _)⟩ ?_
  obtain ⟨D, eD⟩ : ∃ D, w3.heap.size = D := ⟨_, rfl⟩
  obtain ⟨Q, eQ⟩ : ∃ Q, w4.heap.size = Q := ⟨_, rfl⟩
  rw [eD, eQ]
  rintro W ⟨KC, KT, KD, KS, NV, HB⟩
  clear u0 u1 u2 u3 u4 u5 u6 u7 u8 u9 u10 u11 u12 u13 u14 hl3 HTK kd4 hld hb4 K3 NV3 HB3 KT3
  have hlc := KC.out.lt
  have hlt := KT.out.lt
  have hld := KD.out.lt
  have hls := KS.out.lt
  have HRT : Hid (∀ V : World, Calls Tryd.prog 21 #[(.agg #[.int .i64 n, .slice A1 ps.length c1, .slice A2 ss.length c2, .int .i64 long, .slice A3 bs.length c3, .slice A4 st.length c4, .int .i64 miss, .int .i64 good, .int .i64 fresh]), .int .i64 i, .agg #[.bool any, .int .u32 seq, .int .u32 val, .int .i64 round], .agg #[.bool is, .int .i64 at_, .int .u8 kind, .int .u8 station, .int .u32 dseq, .int .u32 value, .int .i64 pair, .int .i64 command, .int .i64 dround]] V fun e w' => e = .returned (.tuple #[.agg #[.bool tany, .int .u32 tseq, .int .u32 tval, .int .i64 tround], .bool ok]) ∧ Below V.heap.size V w') := Lib.hid fun V => by
    have h := refTake_any n A1 c1 ps A2 c2 ss long A3 c3 bs A4 c4 st miss good fresh i ⟨any, seq, val, round⟩ ⟨is, at_, kind, station, dseq, value, pair, command, dround⟩ V hst8 hd
    rw [HTS.out, HOK.out] at h
    exact h
  go_cut [10, 11] (fun s10 s11 wx => CutAny W tany tseq tval tround ok s10 s11 wx)
  case first =>
    go_region_held3 (fun V => V.cell? ⟨w.heap.size, 0, none⟩ = some (.int .i64 n) ∧ V.cell? ⟨w.heap.size, 1, none⟩ = some (.slice A1 ps.length c1) ∧ V.cell? ⟨w.heap.size, 2, none⟩ = some (.slice A2 ss.length c2) ∧ V.cell? ⟨w.heap.size, 3, none⟩ = some (.int .i64 long) ∧ V.cell? ⟨w.heap.size, 4, none⟩ = some (.slice A3 bs.length c3) ∧ V.cell? ⟨w.heap.size, 5, none⟩ = some (.slice A4 st.length c4) ∧ V.cell? ⟨w.heap.size, 6, none⟩ = some (.int .i64 miss) ∧ V.cell? ⟨w.heap.size, 7, none⟩ = some (.int .i64 good) ∧ V.cell? ⟨w.heap.size, 8, none⟩ = some (.int .i64 fresh) ∧
        V.cell? ⟨w.heap.size + 1, 0, none⟩ = some (.int .i64 i) ∧ V.cell? ⟨w.heap.size + 1, 1, none⟩ = some (.bool any) ∧ V.cell? ⟨w.heap.size + 1, 2, none⟩ = some (.int .u32 seq) ∧ V.cell? ⟨w.heap.size + 1, 3, none⟩ = some (.int .u32 val) ∧ V.cell? ⟨w.heap.size + 1, 4, none⟩ = some (.int .i64 round) ∧
        V.cell? ⟨D, 0, none⟩ = some (.bool is) ∧ V.cell? ⟨D, 1, none⟩ = some (.int .i64 at_) ∧ V.cell? ⟨D, 2, none⟩ = some (.int .u8 kind) ∧ V.cell? ⟨D, 3, none⟩ = some (.int .u8 station) ∧ V.cell? ⟨D, 4, none⟩ = some (.int .u32 dseq) ∧ V.cell? ⟨D, 5, none⟩ = some (.int .u32 value) ∧ V.cell? ⟨D, 6, none⟩ = some (.int .i64 pair) ∧ V.cell? ⟨D, 7, none⟩ = some (.int .i64 command) ∧ V.cell? ⟨D, 8, none⟩ = some (.int .i64 dround))
      ((refine s12_of (W := W) KC.out KT.out KD.out ?_; (repeat (first | (with_reducible exact Below.refl _ _) | (with_reducible assumption) | (with_reducible refine Below.drew ?_) | (with_reducible refine Below.allocW ?_ _) | (with_reducible refine Below.setCell ?_ (by first | (simp; done) | (simp; omega) | (dsimp only; omega)) _) | (with_reducible refine Below.then_ ?_ (by assumption))))))
      (first | (go_at_call 18; refine (other_raw _ _ _ _ _).mono ?_; rintro e wo ⟨rfl, hbo⟩; obtain ⟨bo1, bo2⟩ := bcell hbo; have so := hbo.size; try simp at so; try (have so2 : W.heap.size < wo.heap.size := by omega)) | (go_at_call 21; refine (HRT.out _).mono ?_; rintro e wt ⟨rfl, hbt⟩; obtain ⟨bt1, bt2⟩ := bcell hbt; have szt := hbt.size; try simp at szt; try (have st2 : wo.heap.size < wt.heap.size := by omega); try (have st3 : W.heap.size < wt.heap.size := by omega)))
    all_goals (go_wp2_with fail; go_meet)
    · refine ⟨_, rfl, rfl, Blk.new_ wt _ _ rfl, ?_⟩
      (repeat (first | (with_reducible exact Below.refl _ _) | (with_reducible assumption) | (with_reducible refine Below.drew ?_) | (with_reducible refine Below.allocW ?_ _) | (with_reducible refine Below.setCell ?_ (by first | (simp; done) | (simp; omega) | (dsimp only; omega)) _) | (with_reducible refine Below.then_ ?_ (by assumption))))
    · refine ⟨_, rfl, rfl, set4_blk (z0 := .bool false) (z1 := .int .u32 0) (z2 := .int .u32 0) (z3 := .int .i64 0) ((Blk.new_ wo _ _ rfl).below hbt), ?_⟩
      (repeat (first | (with_reducible exact Below.refl _ _) | (with_reducible assumption) | (with_reducible refine Below.drew ?_) | (with_reducible refine Below.allocW ?_ _) | (with_reducible refine Below.setCell ?_ (by first | (simp; done) | (simp; omega) | (dsimp only; omega)) _) | (with_reducible refine Below.then_ ?_ (by assumption))))
    · refine ⟨_, rfl, rfl, set4_blk (z0 := .bool false) (z1 := .int .u32 0) (z2 := .int .u32 0) (z3 := .int .i64 0) (((show Blk (W.alloc (.cells #[.bool false, .int .u32 0, .int .u32 0, .int .i64 0] 51)).drew W.heap.size 51 #[.bool false, .int .u32 0, .int .u32 0, .int .i64 0] from Blk.new_ W _ _ rfl).below hbo).below hbt), ?_⟩
      (repeat (first | (with_reducible exact Below.refl _ _) | (with_reducible assumption) | (with_reducible refine Below.drew ?_) | (with_reducible refine Below.allocW ?_ _) | (with_reducible refine Below.setCell ?_ (by first | (simp; done) | (simp; omega) | (dsimp only; omega)) _) | (with_reducible refine Below.then_ ?_ (by assumption))))
  case rest =>
    obtain ⟨g, rfl, rfl, kg, hbx⟩ := hcut
    have hcx := KC.out.below hbx
    have htx := KT.out.below hbx
    have hsx := KS.out.below hbx
    obtain ⟨q0, q1, q2, q3, q4, q5, q6, q7, q8⟩ := box9 hcx
    obtain ⟨u0, u1, u2, u3, u4, u5, u6, u7, u8, u9, u10, u11, u12, u13, u14⟩ := box15 htx
    obtain ⟨y0, y1, y2, y3⟩ := box4 hsx
    obtain ⟨z0, z1, z2, z3⟩ := box4 kg
    have HBX := Lib.hid (Below.then_ HB.out hbx)
    have NVX := Lib.hid (NV.out.below hbx)
    have HO1 := Lib.hid fun (x : Grow wc) => output_any (.pointer (some ⟨p, 0, none⟩)) st i ⟨any, seq, val, round⟩ r x.w ((HC.out.below (Below.then_ HBX.out x.h)).signs) (NVX.out.below x.h) hr hsr HH.out
    have HO2 := Lib.hid fun (x : Grow wc) => refOut_any n A1 c1 ps A2 c2 ss long A3 c3 bs A4 c4 st miss good fresh i ⟨any, seq, val, round⟩ r x.w hr hsr ((HC.out.below (Below.then_ HBX.out x.h)).r4) HH.out
    have HLV := Lib.hid fun (x : Grow wc) => lives_any x.w ((HC.out.below (Below.then_ HBX.out x.h)).signs)
    obtain ⟨O, hO⟩ : ∃ O, outE st i ⟨any, seq, val, round⟩ r = O := ⟨_, rfl⟩
    rw [hO] at HO1 HO2
    simp only [ASt.V] at HO1 HO2
    have T2 : ∀ x : Grow wc, (x.w.cell? ⟨w.heap.size, 0, none⟩ = some (.int .i64 n) ∧ x.w.cell? ⟨w.heap.size, 1, none⟩ = some (.slice A1 ps.length c1) ∧ x.w.cell? ⟨w.heap.size, 2, none⟩ = some (.slice A2 ss.length c2) ∧ x.w.cell? ⟨w.heap.size, 3, none⟩ = some (.int .i64 long) ∧ x.w.cell? ⟨w.heap.size, 4, none⟩ = some (.slice A3 bs.length c3) ∧ x.w.cell? ⟨w.heap.size, 5, none⟩ = some (.slice A4 st.length c4) ∧ x.w.cell? ⟨w.heap.size, 6, none⟩ = some (.int .i64 miss) ∧ x.w.cell? ⟨w.heap.size, 7, none⟩ = some (.int .i64 good) ∧ x.w.cell? ⟨w.heap.size, 8, none⟩ = some (.int .i64 fresh)) ∧
        (x.w.cell? ⟨w.heap.size + 1, 0, none⟩ = some (.int .i64 i) ∧ x.w.cell? ⟨w.heap.size + 1, 1, none⟩ = some (.bool any) ∧ x.w.cell? ⟨w.heap.size + 1, 2, none⟩ = some (.int .u32 seq) ∧ x.w.cell? ⟨w.heap.size + 1, 3, none⟩ = some (.int .u32 val) ∧ x.w.cell? ⟨w.heap.size + 1, 4, none⟩ = some (.int .i64 round) ∧ x.w.cell? ⟨w.heap.size + 1, 14, none⟩ = some (.int .i64 r)) ∧
        (x.w.cell? ⟨Q, 0, none⟩ = some (.bool tany) ∧ x.w.cell? ⟨Q, 1, none⟩ = some (.int .u32 tseq) ∧ x.w.cell? ⟨Q, 2, none⟩ = some (.int .u32 tval) ∧ x.w.cell? ⟨Q, 3, none⟩ = some (.int .i64 tround)) ∧
        (x.w.cell? ⟨g, 0, none⟩ = some (.bool tany) ∧ x.w.cell? ⟨g, 1, none⟩ = some (.int .u32 tseq) ∧ x.w.cell? ⟨g, 2, none⟩ = some (.int .u32 tval) ∧ x.w.cell? ⟨g, 3, none⟩ = some (.int .i64 tround)) :=
      fun x => ⟨⟨x.cell q0, x.cell q1, x.cell q2, x.cell q3, x.cell q4, x.cell q5, x.cell q6, x.cell q7, x.cell q8⟩, ⟨x.cell u0, x.cell u1, x.cell u2, x.cell u3, x.cell u4, x.cell u14⟩, ⟨x.cell y0, x.cell y1, x.cell y2, x.cell y3⟩, ⟨x.cell z0, x.cell z1, x.cell z2, x.cell z3⟩⟩
    clear hcx htx hsx kg hbx q0 q1 q2 q3 q4 q5 q6 q7 q8 u0 u1 u2 u3 u4 u5 u6 u7 u8 u9 u10 u11 u12 u13 u14 y0 y1 y2 y3 z0 z1 z2 z3 hO hlc hlt hld hls
    go_wp2_with fail
    refine wp_region_grow (by kernel_rfl) (by kernel_rfl) ?_
    repeat (go_big_quiet_step ((first | (go_at_call 18; exact Grow.call _ (other_raw _ _ _ _ _)) | (go_at_call 14; exact Grow.call _ (HO1.out _)) | (go_at_call 22; exact Grow.call _ (HO2.out _)) | (go_at_call 15; exact Grow.call _ (HLV.out _)))))
    refine wpQuiet_nil ?_
    rintro wz hxz
    have hbz := grow_of hxz
    clear hxz
    go_wp2
    go_ret
    exact ⟨rfl, Below.then_ HBX.out hbz⟩
end Go.Proofs.YtmpkpikamogpdaaDoor.K
