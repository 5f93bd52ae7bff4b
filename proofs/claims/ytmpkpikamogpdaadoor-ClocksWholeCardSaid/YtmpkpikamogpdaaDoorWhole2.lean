/- sennitlaw06.ClocksWhole answers true: the walk. -/
import Derived.Test.YtmpkpikamogpdaaDoorWhole
namespace Go.Proofs.YtmpkpikamogpdaaDoor.K
open Go.RowKit

theorem RdV.below_ {B : Nat} {w w' : World} {A : Option Addr} {cs : List Value} (h : RdV w A cs) (hb : Below B w w') (hA : cs ≠ [] → ∀ a, A = some a → a.block < B) : RdV w' A cs := fun hn => by
  obtain ⟨b, off, rfl, hc⟩ := h hn
  exact ⟨b, off, rfl, fun j u hj => (hb.cell (p := ⟨b, off + j, none⟩) (show b < B from hA hn ⟨b, off, none⟩ rfl)).trans (hc j u hj)⟩
theorem RdV.stpAt {w : World} {b off : Nat} {l : List Stp} (h : RdV w (some ⟨b, off, none⟩) (stpCells l)) {k : Nat} {d : Stp} (hd : l[k]? = some d) :
    w.cell? ⟨b, off + k * 4, none⟩ = some (.int .i64 d.age) ∧ w.cell? ⟨b, off + k * 4 + 1, none⟩ = some (.int .u16 d.many) ∧ w.cell? ⟨b, off + k * 4 + 2, none⟩ = some (.bool d.goes) ∧ w.cell? ⟨b, off + k * 4 + 3, none⟩ = some (.bool d.sure) := by
  have hk : k < l.length := (List.getElem?_eq_some_iff.1 hd).1
  obtain ⟨b', off', d', e, hd', r⟩ := h.stp hk
  cases e
  rw [hd] at hd'
  cases hd'
  exact r

set_option maxRecDepth 100000 in
set_option maxHeartbeats 4000000 in
theorem lawWhole_none (n : Int) (A1 : Option Addr) (c1 : Nat) (ps : List Int) (A2 : Option Addr) (c2 : Nat) (ss : List Int) (long : Int) (A3 : Option Addr) (c3 : Nat) (bs : List Int) (A4 : Option Addr) (c4 : Nat) (st : List Stn) (miss good fresh : Int) (Al : Option Addr) (cl : Nat) (ds : List Stp) (w : World) (hs : Signs w) (hn : ∀ W, Below w.heap.size w W → Calls Tryd.prog 23 #[(.agg #[.int .i64 n, .slice A1 ps.length c1, .slice A2 ss.length c2, .int .i64 long, .slice A3 bs.length c3, .slice A4 st.length c4, .int .i64 miss, .int .i64 good, .int .i64 fresh])] W fun e w' => e = .returned (.pointer none) ∧ Below W.heap.size W w') :
    Calls Tryd.prog 8 #[(.agg #[.int .i64 n, .slice A1 ps.length c1, .slice A2 ss.length c2, .int .i64 long, .slice A3 bs.length c3, .slice A4 st.length c4, .int .i64 miss, .int .i64 good, .int .i64 fresh]), .slice Al ds.length cl] w fun e w' => e = .returned (.bool true) ∧ Below w.heap.size w w' := by
  have HS := Lib.hid hs
  have HN := Lib.hid hn
  clear hs hn
  go_enter Tryd.func8, Tryd.ntmps8
  go_wp2_with fail
  go_at_call 23
  refine (HN.out _ (ba _ _)).mono ?_
  rintro e w1 ⟨rfl, hb1⟩
  have HB1 := Lib.hid (Below.then_ (ba _ _) hb1)
  clear hb1
  go_wp2_with fail
  go_at_call 24
  refine (lives6_any _ (HS.out.below HB1.out)).mono ?_
  rintro e w2 ⟨rfl, hb2⟩
  go_wp2_with fail
  go_ret
  exact ⟨rfl, Below.then_ HB1.out hb2⟩

set_option maxRecDepth 100000 in
set_option maxHeartbeats 16000000 in
theorem lawWhole_ok (n : Int) (A1 : Option Addr) (c1 : Nat) (ps : List Int) (A2 : Option Addr) (c2 : Nat) (ss : List Int) (long : Int) (A3 : Option Addr) (c3 : Nat) (bs : List Int) (A4 : Option Addr) (c4 : Nat) (st : List Stn) (miss good fresh : Int) (Al : Option Addr) (cl : Nat) (ds : List Stp) (w : World) (hs : Signs w) (hg : ¬ GreatP ps ss bs st) (hc : CfgIn w A1 ps A2 ss A3 bs A4 st) (hb : newE ⟨n, ps, ss, long, bs, st, miss, good, fresh⟩ = 0) (hrd : RdV w Al (stpCells ds)) (hst : ∀ d ∈ ds, (0 ≤ d.many ∧ d.many < 65536) ∧ I64 d.age) (hl : ds.length ≤ 9223372036854775807) :
    Calls Tryd.prog 8 #[(.agg #[.int .i64 n, .slice A1 ps.length c1, .slice A2 ss.length c2, .int .i64 long, .slice A3 bs.length c3, .slice A4 st.length c4, .int .i64 miss, .int .i64 good, .int .i64 fresh]), .slice Al ds.length cl] w fun e w' => e = .returned (.bool true) ∧ Below w.heap.size w w' := by
  have HS := Lib.hid hs
  have HN := Lib.hid fun (W : World) (hb' : Below w.heap.size w W) => net6_ok n A1 c1 ps A2 c2 ss long A3 c3 bs A4 c4 st miss good fresh W hg (hc.below hb') hb
  have HE := Lib.hid hb
  have HST := Lib.hid hst
  have HRW := Lib.hid hrd
  have hBB := rb_of hb
  have l0 := hBB.l0
  have l1 := hBB.l1
  dsimp only at l0 l1
  clear hs hg hc hb hst hrd hBB
  go_enter Tryd.func8, Tryd.ntmps8
  go_wp2_with fail
  go_at_call 23
  refine (HN.out _ (ba _ _)).mono ?_
  rintro e w1 ⟨p, rfl, hna, hb1⟩
  have kc1 := (Blk.new_ w 44 #[.int .i64 n, .slice A1 ps.length c1, .slice A2 ss.length c2, .int .i64 long, .slice A3 bs.length c3, .slice A4 st.length c4, .int .i64 miss, .int .i64 good, .int .i64 fresh] rfl).below hb1
  have KC := Lib.hid kc1
  have NA := Lib.hid hna
  have HB1 := Lib.hid (Below.then_ (ba _ _) hb1)
  have hcK := kc1.lt
  clear kc1 hb1 hna
  by_cases hL : 40 < ds.length
  · go_wp2_with fail
    go_at_call 24
    refine (lives6_any _ (HS.out.below HB1.out)).mono ?_
    rintro e w2 ⟨rfl, hb2⟩
    go_wp2_with fail
    go_ret
    exact ⟨rfl, Below.then_ HB1.out hb2⟩
  go_wp2_with fail
  go_at_call 32
  refine (clkNew_any p _ w1 NA.out).mono ?_
  rintro e V ⟨q, rfl, hw3⟩
  have KV : Hid (Blk V w1.heap.size 93 (Ck.cells p ⟨0, 0, 0, 0⟩)) := Lib.hid (by rw [← hw3]; exact Blk.new_ (w1.drewN q) _ _ rfl)
  have HV : Hid (Below w1.heap.size w1 V) := Lib.hid (by rw [← hw3]; exact (below_drewN (Below.refl _ w1) q).alloc (Nat.le_refl _) _)
  obtain ⟨q0, q1, q2, q3, q4, q5, q6, q7, q8⟩ := box9 (KC.out.below HV.out)
  have hlv := (KC.out.below HV.out).lt
  clear hw3
  go_wp2_with fail
  clear q0 q1 q2 q3 q4 q5 q6 q7 q8 hlv
  have HRD := Lib.hid (HRW.out.below HB1.out)
  have hbK : stpCells ds ≠ [] → ∀ a, Al = some a → a.block < w1.heap.size := fun h a ha => HRD.out.lt h a ha
  obtain ⟨K, eK⟩ : ∃ K, w1.heap.size = K := ⟨_, rfl⟩
  rw [eK] at hcK hbK KV HV ⊢
  have NK : Hid (∀ U : World, Below K w1 U → NetAt U p ⟨n, ps, ss, long, bs, st, miss, good, fresh⟩) := Lib.hid fun U hU => NA.out.below (by rw [eK]; exact hU)
  have HTK : Hid (∀ (i : Int) (sure : Bool) (k : Ck) (U : World), Below K w1 U → Blk U K 93 (k.cells p) → (k.state = 0 ∨ k.state = 1) → (0 ≤ k.pl ∧ k.pl ≤ 4096) → Calls Tryd.prog 33 #[.pointer (some ⟨K, 0, none⟩), .int .i64 i, .bool sure] U fun e w' => e = .returned (tickV (tickS ⟨n, ps, ss, long, bs, st, miss, good, fresh⟩ i sure k)) ∧ Blk w' K 93 ((tickS ⟨n, ps, ss, long, bs, st, miss, good, fresh⟩ i sure k).cells p) ∧ U.grownBy w' (some K)) :=
    Lib.hid fun i sure k U h1 h2 h3 h4 => tick_any p K _ i sure k w1 U NA.out (by rw [eK]; exact h1) (by omega) h2 h3 h4
  have HBK2 := Lib.hid hbK
  clear hbK
  go_loopg [7, 8, 9, 10, 11, 12, 13, 14, 15, 16] ds.length (fun g s7 s8 s9 _ _ _ _ _ _ _ wr => ∃ (i : Nat) (k : Ck) (place since : Int), g = ds.length - i ∧ i ≤ ds.length ∧ s9 = .int .i64 i ∧ s7 = .int .i64 place ∧ s8 = .int .i64 since ∧ since ≤ 4096 + 300 * i ∧ Hid (WInv long k place since) ∧ Hid (Blk wr K 93 (k.cells p)) ∧ Hid (Below K w1 wr))
  case atStart => exact ⟨0, ⟨0, 0, 0, 0⟩, -1, long, by omega, by omega, rfl, rfl, rfl, by omega, Lib.hid (.inr ⟨rfl, rfl, by decide, by decide, Int.le_refl _⟩), KV, HV⟩
  case round =>
    obtain ⟨i, k, place, since, rfl, hi, rfl, rfl, rfl, hsn, HI, KK, HBK⟩ := hrel
    by_cases hlt : i < ds.length
    · have hlti : (i : Int) < (ds.length : Int) := by omega
      have hi0 : (0 : Int) ≤ (i : Int) := by omega
      obtain ⟨b, off, d, rfl, hd, _⟩ := HRD.out.stp hlt
      have HD := Lib.hid hd
      have hdst := HST.out d (List.mem_of_getElem? hd)
      obtain ⟨sage, many, goes, sure⟩ := d
      obtain ⟨⟨hm0, hm1⟩, hag⟩ := hdst
      dsimp only at hm0 hm1
      obtain ⟨ha0, ha1⟩ := hag
      dsimp only at ha0 ha1
      obtain ⟨m, em⟩ : ∃ m : Nat, many % 300 = (m : Int) := ⟨(many % 300).toNat, by omega⟩
      have hm300 : m < 300 := by omega
      have hbK := HBK2.out
      have c := (RdV.below_ HRD.out HBK.out hbK).stpAt hd
      obtain ⟨c0, c1, c2, c3⟩ := c
      dsimp only at c0 c1 c2 c3
      have hlb := cell_lt c0
      clear hd
      go_wp2_with fail
      clear c0 c1 c2 c3 hlb
      go_loopg [7, 8, 10, 11, 12, 13, 14, 15, 16] m (fun g s7 s8 s10 s11 _ _ _ _ _ wr => ∃ (j : Nat) (k : Ck) (place since ag : Int), g = m - j ∧ j ≤ m ∧ s11 = .int .i64 j ∧ s10 = .int .i64 ag ∧ s7 = .int .i64 place ∧ s8 = .int .i64 since ∧ since ≤ 4096 + 300 * i + j ∧ -9223372036854775808 ≤ ag ∧ ag ≤ 9223372036854775807 ∧ Hid (WInv long k place since) ∧ Hid (Blk wr K 93 (k.cells p)) ∧ Hid (Below K w1 wr))
      case atStart => exact ⟨0, k, place, since, sage, by omega, by omega, rfl, rfl, rfl, rfl, by omega, ha0, ha1, HI, KK, HBK⟩
      case round =>
        clear HI KK HBK hsn
        obtain ⟨j, k, place, since, ag, rfl, hj, rfl, rfl, rfl, rfl, hsn, hag0, hag1, HI, KK, HBK⟩ := hrel
        have hKw := KK.out.lt
        have hsn0 := whole_since HI.out (by omega)
        obtain ⟨c0, c1, c2, c3⟩ := (RdV.below_ HRD.out HBK.out hbK).stpAt HD.out
        dsimp only at c0 c1 c2 c3
        have hlb := cell_lt c0
        obtain ⟨q0, q1, q2, q3, q4, q5, q6, q7, q8⟩ := box9 (Blk.below_ KC.out HBK.out hcK)
        have hlc := (Blk.below_ KC.out HBK.out hcK).lt
        by_cases hjm : j < m
        · have hjm' : (j : Int) < (m : Int) := by omega
          have hpl := whole_pl HI.out l1
          have HT := HTK.out ag sure k _ HBK.out KK.out hpl.1 hpl.2
          have hstep := whole_step (c := ⟨n, ps, ss, long, bs, st, miss, good, fresh⟩) ⟨by dsimp only; omega, l1⟩ HI.out ag sure
          have HO := Lib.hid fun (U : World) (h : Below K w1 U) => of_any p _ ag U (NK.out U h)
          obtain ⟨⟨ur, us, up⟩, hu⟩ : ∃ t, tOf ⟨n, ps, ss, long, bs, st, miss, good, fresh⟩ ag = t := ⟨_, rfl⟩
          have hbt : beginB ⟨n, ps, ss, long, bs, st, miss, good, fresh⟩ ag sure = true → sure = true ∧ ¬ outB ag ∧ up = 0 := fun h => by have := beginB_true h; rw [hu] at this; exact this
          have hbf : beginB ⟨n, ps, ss, long, bs, st, miss, good, fresh⟩ ag sure = false → sure = false ∨ (sure = true ∧ outB ag) ∨ (sure = true ∧ ¬ outB ag ∧ up ≠ 0) := fun h => by have := beginB_false h; rw [hu] at this; exact this
          have heo : outB ag → eOf ag = 1 := fun h => by rw [eOf, if_pos h]
          have hen : ¬ outB ag → eOf ag = 0 := fun h => by rw [eOf, if_neg h]
          rw [hu] at HO hstep
          dsimp only at hstep
          simp only [Tm.V] at HO
          obtain ⟨E, hE⟩ : ∃ E, eOf ag = E := ⟨_, rfl⟩
          rw [hE] at HO heo hen
          clear hu hE hpl
          rcases hstep with ⟨p0, p1, r, s, e1, e2⟩ | ⟨hpp, hsl, ⟨hbb, e1, e2⟩ | ⟨hbb, r, s, pl, e1, e2⟩⟩
          · rw [e1, tickV_run] at HT
            have HT2 := Lib.hid HT
            have HI2 := Lib.hid e2
            have hz : (place + 1 == 0) = false := by simp; omega
            have hz2 : (place + 1 == long) = false := by simp; omega
            clear HT e1 e2 hbt hbf heo hen
            go_wp2_with fail
            go_at_call 33
            refine (HT2.out).mono ?_
            rintro e w2 ⟨rfl, k2, g2⟩
            have hb2 := below_only HBK.out g2 (Nat.le_of_lt hKw) (Nat.le_refl _)
            have hs2 := k2.lt
            have KC2 := Lib.hid (Blk.below_ KC.out hb2 hcK)
            have RD2 := Lib.hid (RdV.below_ HRD.out hb2 hbK)
            clear c0 c1 c2 c3 q0 q1 q2 q3 q4 q5 q6 q7 q8 hlc hlb
            obtain ⟨c0, c1, c2, c3⟩ := RD2.out.stpAt HD.out
            obtain ⟨q0, q1, q2, q3, q4, q5, q6, q7, q8⟩ := box9 KC2.out
            have hlc := KC2.out.lt
            have hlb := cell_lt c0
            dsimp only at c0 c1 c2 c3
            go_wp2_with fail
            refine gen_world (fun U => Hid (Blk U K 93 (Ck.cells p ⟨1, r, s, place + 1⟩)) ∧ Hid (Blk U w2.heap.size 64 #[.int .i64 r, .int .i64 s, .int .i64 (place + 1)]) ∧ Hid (Below K w1 U)) ⟨Lib.hid (k2.alloc _), Lib.hid (Blk.new_ w2 _ _ rfl), Lib.hid (hb2.alloc (by omega) _)⟩ ?_
            obtain ⟨T1, eT1⟩ : ∃ T, w2.heap.size = T := ⟨_, rfl⟩
            rw [eT1]
            rintro U1 ⟨KU1, TU1, BU1⟩
            clear k2 g2 hb2 c0 c1 c2 c3 q0 q1 q2 q3 q4 q5 q6 q7 q8 hlc hlb
            go_at_call 25
            refine (HO.out U1 BU1.out).mono ?_
            rintro e w4 ⟨rfl, hb4⟩
            have B4 := Lib.hid (BU1.out.trans (hb4.mono (Nat.le_of_lt KU1.out.lt)))
            have K4 := Lib.hid (KU1.out.below hb4)
            have hK4 := K4.out.lt
            obtain ⟨y0, y1, y2⟩ := box3 (TU1.out.below hb4)
            have hl4 := (TU1.out.below hb4).lt
            obtain ⟨c0, c1, c2, c3⟩ := (RdV.below_ HRD.out B4.out hbK).stpAt HD.out
            obtain ⟨q0, q1, q2, q3, q4, q5, q6, q7, q8⟩ := box9 (Blk.below_ KC.out B4.out hcK)
            have hlc := (Blk.below_ KC.out B4.out hcK).lt
            have hlb := cell_lt c0
            dsimp only at c0 c1 c2 c3
            clear hb4
            go_upto_region 29 with fail
            cases goes
            · go_wp2_with fail
              go_roundg (m - (j + 1))
              case measure => omega
              case rel => exact ⟨j + 1, ⟨1, r, s, place + 1⟩, (place + 1), (since + 1), ag, rfl, by omega, by go_num, rfl, rfl, rfl, by omega, hag0, hag1, HI2, Lib.hid (K4.out.alloc _), Lib.hid (B4.out.alloc (Nat.le_of_lt hK4) _)⟩
            · by_cases h50 : ag < 1125899906842624
              · go_wp2_with fail
                go_roundg (m - (j + 1))
                case measure => omega
                case rel => exact ⟨j + 1, ⟨1, r, s, place + 1⟩, (place + 1), (since + 1), ag + 1, rfl, by omega, by go_num, rfl, rfl, rfl, by omega, by omega, by omega, HI2, Lib.hid (K4.out.alloc _), Lib.hid (B4.out.alloc (Nat.le_of_lt hK4) _)⟩
              · go_wp2_with fail
                go_roundg (m - (j + 1))
                case measure => omega
                case rel => exact ⟨j + 1, ⟨1, r, s, place + 1⟩, (place + 1), (since + 1), ag, rfl, by omega, by go_num, rfl, rfl, rfl, by omega, hag0, hag1, HI2, Lib.hid (K4.out.alloc _), Lib.hid (B4.out.alloc (Nat.le_of_lt hK4) _)⟩
          · rw [e1, tickV_run] at HT
            have HT2 := Lib.hid HT
            have HI2 := Lib.hid e2
            obtain ⟨rfl, hno, rfl⟩ := hbt hbb
            obtain rfl := hen hno
            have HSL := Lib.hid hsl
            clear HT e1 e2 hbt hbf heo hen hno hbb
            rcases hpp with rfl | ⟨p0, rfl⟩
            · skip
              go_wp2_with fail
              go_at_call 33
              refine (HT2.out).mono ?_
              rintro e w2 ⟨rfl, k2, g2⟩
              have hb2 := below_only HBK.out g2 (Nat.le_of_lt hKw) (Nat.le_refl _)
              have hs2 := k2.lt
              have KC2 := Lib.hid (Blk.below_ KC.out hb2 hcK)
              have RD2 := Lib.hid (RdV.below_ HRD.out hb2 hbK)
              clear c0 c1 c2 c3 q0 q1 q2 q3 q4 q5 q6 q7 q8 hlc hlb
              obtain ⟨c0, c1, c2, c3⟩ := RD2.out.stpAt HD.out
              obtain ⟨q0, q1, q2, q3, q4, q5, q6, q7, q8⟩ := box9 KC2.out
              have hlc := KC2.out.lt
              have hlb := cell_lt c0
              dsimp only at c0 c1 c2 c3
              go_wp2_with fail
              refine gen_world (fun U => Hid (Blk U K 93 (Ck.cells p ⟨1, ur, us, 0⟩)) ∧ Hid (Blk U w2.heap.size 64 #[.int .i64 ur, .int .i64 us, .int .i64 0]) ∧ Hid (Below K w1 U)) ⟨Lib.hid (k2.alloc _), Lib.hid (Blk.new_ w2 _ _ rfl), Lib.hid (hb2.alloc (by omega) _)⟩ ?_
              obtain ⟨T1, eT1⟩ : ∃ T, w2.heap.size = T := ⟨_, rfl⟩
              rw [eT1]
              rintro U1 ⟨KU1, TU1, BU1⟩
              clear k2 g2 hb2 c0 c1 c2 c3 q0 q1 q2 q3 q4 q5 q6 q7 q8 hlc hlb
              go_at_call 25
              refine (HO.out U1 BU1.out).mono ?_
              rintro e w4 ⟨rfl, hb4⟩
              have B4 := Lib.hid (BU1.out.trans (hb4.mono (Nat.le_of_lt KU1.out.lt)))
              have K4 := Lib.hid (KU1.out.below hb4)
              have hK4 := K4.out.lt
              obtain ⟨y0, y1, y2⟩ := box3 (TU1.out.below hb4)
              have hl4 := (TU1.out.below hb4).lt
              obtain ⟨c0, c1, c2, c3⟩ := (RdV.below_ HRD.out B4.out hbK).stpAt HD.out
              obtain ⟨q0, q1, q2, q3, q4, q5, q6, q7, q8⟩ := box9 (Blk.below_ KC.out B4.out hcK)
              have hlc := (Blk.below_ KC.out B4.out hcK).lt
              have hlb := cell_lt c0
              dsimp only at c0 c1 c2 c3
              clear hb4
              go_upto_region 29 with fail
              cases goes
              · go_wp2_with fail
                go_roundg (m - (j + 1))
                case measure => omega
                case rel => exact ⟨j + 1, ⟨1, ur, us, 0⟩, 0, 0, ag, rfl, by omega, by go_num, rfl, rfl, rfl, by omega, hag0, hag1, HI2, Lib.hid (K4.out.alloc _), Lib.hid (B4.out.alloc (Nat.le_of_lt hK4) _)⟩
              · by_cases h50 : ag < 1125899906842624
                · go_wp2_with fail
                  go_roundg (m - (j + 1))
                  case measure => omega
                  case rel => exact ⟨j + 1, ⟨1, ur, us, 0⟩, 0, 0, ag + 1, rfl, by omega, by go_num, rfl, rfl, rfl, by omega, by omega, by omega, HI2, Lib.hid (K4.out.alloc _), Lib.hid (B4.out.alloc (Nat.le_of_lt hK4) _)⟩
                · go_wp2_with fail
                  go_roundg (m - (j + 1))
                  case measure => omega
                  case rel => exact ⟨j + 1, ⟨1, ur, us, 0⟩, 0, 0, ag, rfl, by omega, by go_num, rfl, rfl, rfl, by omega, hag0, hag1, HI2, Lib.hid (K4.out.alloc _), Lib.hid (B4.out.alloc (Nat.le_of_lt hK4) _)⟩
            · skip
              go_wp2_with fail
              go_at_call 33
              refine (HT2.out).mono ?_
              rintro e w2 ⟨rfl, k2, g2⟩
              have hb2 := below_only HBK.out g2 (Nat.le_of_lt hKw) (Nat.le_refl _)
              have hs2 := k2.lt
              have KC2 := Lib.hid (Blk.below_ KC.out hb2 hcK)
              have RD2 := Lib.hid (RdV.below_ HRD.out hb2 hbK)
              clear c0 c1 c2 c3 q0 q1 q2 q3 q4 q5 q6 q7 q8 hlc hlb
              obtain ⟨c0, c1, c2, c3⟩ := RD2.out.stpAt HD.out
              obtain ⟨q0, q1, q2, q3, q4, q5, q6, q7, q8⟩ := box9 KC2.out
              have hlc := KC2.out.lt
              have hlb := cell_lt c0
              dsimp only at c0 c1 c2 c3
              go_wp2_with fail
              refine gen_world (fun U => Hid (Blk U K 93 (Ck.cells p ⟨1, ur, us, 0⟩)) ∧ Hid (Blk U w2.heap.size 64 #[.int .i64 ur, .int .i64 us, .int .i64 0]) ∧ Hid (Below K w1 U)) ⟨Lib.hid (k2.alloc _), Lib.hid (Blk.new_ w2 _ _ rfl), Lib.hid (hb2.alloc (by omega) _)⟩ ?_
              obtain ⟨T1, eT1⟩ : ∃ T, w2.heap.size = T := ⟨_, rfl⟩
              rw [eT1]
              rintro U1 ⟨KU1, TU1, BU1⟩
              clear k2 g2 hb2 c0 c1 c2 c3 q0 q1 q2 q3 q4 q5 q6 q7 q8 hlc hlb
              go_at_call 25
              refine (HO.out U1 BU1.out).mono ?_
              rintro e w4 ⟨rfl, hb4⟩
              have B4 := Lib.hid (BU1.out.trans (hb4.mono (Nat.le_of_lt KU1.out.lt)))
              have K4 := Lib.hid (KU1.out.below hb4)
              have hK4 := K4.out.lt
              obtain ⟨y0, y1, y2⟩ := box3 (TU1.out.below hb4)
              have hl4 := (TU1.out.below hb4).lt
              obtain ⟨c0, c1, c2, c3⟩ := (RdV.below_ HRD.out B4.out hbK).stpAt HD.out
              obtain ⟨q0, q1, q2, q3, q4, q5, q6, q7, q8⟩ := box9 (Blk.below_ KC.out B4.out hcK)
              have hlc := (Blk.below_ KC.out B4.out hcK).lt
              have hlb := cell_lt c0
              dsimp only at c0 c1 c2 c3
              clear hb4
              go_upto_region 29 with fail
              cases goes
              · go_wp2_with fail
                go_roundg (m - (j + 1))
                case measure => omega
                case rel => exact ⟨j + 1, ⟨1, ur, us, 0⟩, 0, 0, ag, rfl, by omega, by go_num, rfl, rfl, rfl, by omega, hag0, hag1, HI2, Lib.hid (K4.out.alloc _), Lib.hid (B4.out.alloc (Nat.le_of_lt hK4) _)⟩
              · by_cases h50 : ag < 1125899906842624
                · go_wp2_with fail
                  go_roundg (m - (j + 1))
                  case measure => omega
                  case rel => exact ⟨j + 1, ⟨1, ur, us, 0⟩, 0, 0, ag + 1, rfl, by omega, by go_num, rfl, rfl, rfl, by omega, by omega, by omega, HI2, Lib.hid (K4.out.alloc _), Lib.hid (B4.out.alloc (Nat.le_of_lt hK4) _)⟩
                · go_wp2_with fail
                  go_roundg (m - (j + 1))
                  case measure => omega
                  case rel => exact ⟨j + 1, ⟨1, ur, us, 0⟩, 0, 0, ag, rfl, by omega, by go_num, rfl, rfl, rfl, by omega, hag0, hag1, HI2, Lib.hid (K4.out.alloc _), Lib.hid (B4.out.alloc (Nat.le_of_lt hK4) _)⟩
          · rw [e1, tickV_idle] at HT
            have HT2 := Lib.hid HT
            have HI2 := Lib.hid e2
            have hb := hbf hbb
            clear HT e1 e2 hbt hbf hbb
            rcases hpp with rfl | ⟨p0, rfl⟩
            · rcases hb with rfl | ⟨rfl, ho⟩ | ⟨rfl, ho, hup⟩
              · clear heo hen
                go_wp2_with fail
                go_at_call 33
                refine (HT2.out).mono ?_
                rintro e w2 ⟨rfl, k2, g2⟩
                have hb2 := below_only HBK.out g2 (Nat.le_of_lt hKw) (Nat.le_refl _)
                have hs2 := k2.lt
                have KC2 := Lib.hid (Blk.below_ KC.out hb2 hcK)
                have RD2 := Lib.hid (RdV.below_ HRD.out hb2 hbK)
                clear c0 c1 c2 c3 q0 q1 q2 q3 q4 q5 q6 q7 q8 hlc hlb
                obtain ⟨c0, c1, c2, c3⟩ := RD2.out.stpAt HD.out
                obtain ⟨q0, q1, q2, q3, q4, q5, q6, q7, q8⟩ := box9 KC2.out
                have hlc := KC2.out.lt
                have hlb := cell_lt c0
                dsimp only at c0 c1 c2 c3
                go_wp2_with fail
                refine gen_world (fun U => Hid (Blk U K 93 (Ck.cells p ⟨0, r, s, pl⟩)) ∧ Hid (Blk U w2.heap.size 64 #[.int .i64 0, .int .i64 0, .int .i64 0]) ∧ Hid (Below K w1 U)) ⟨Lib.hid (k2.alloc _), Lib.hid (Blk.new_ w2 _ _ rfl), Lib.hid (hb2.alloc (by omega) _)⟩ ?_
                obtain ⟨T1, eT1⟩ : ∃ T, w2.heap.size = T := ⟨_, rfl⟩
                rw [eT1]
                rintro U1 ⟨KU1, TU1, BU1⟩
                clear k2 g2 hb2 c0 c1 c2 c3 q0 q1 q2 q3 q4 q5 q6 q7 q8 hlc hlb
                go_at_call 25
                refine (HO.out U1 BU1.out).mono ?_
                rintro e w4 ⟨rfl, hb4⟩
                have B4 := Lib.hid (BU1.out.trans (hb4.mono (Nat.le_of_lt KU1.out.lt)))
                have K4 := Lib.hid (KU1.out.below hb4)
                have hK4 := K4.out.lt
                obtain ⟨y0, y1, y2⟩ := box3 (TU1.out.below hb4)
                have hl4 := (TU1.out.below hb4).lt
                obtain ⟨c0, c1, c2, c3⟩ := (RdV.below_ HRD.out B4.out hbK).stpAt HD.out
                obtain ⟨q0, q1, q2, q3, q4, q5, q6, q7, q8⟩ := box9 (Blk.below_ KC.out B4.out hcK)
                have hlc := (Blk.below_ KC.out B4.out hcK).lt
                have hlb := cell_lt c0
                dsimp only at c0 c1 c2 c3
                clear hb4
                go_upto_region 29 with fail
                cases goes
                · go_wp2_with fail
                  go_roundg (m - (j + 1))
                  case measure => omega
                  case rel => exact ⟨j + 1, ⟨0, r, s, pl⟩, (-1), (since + 1), ag, rfl, by omega, by go_num, rfl, rfl, rfl, by omega, hag0, hag1, HI2, Lib.hid (K4.out.alloc _), Lib.hid (B4.out.alloc (Nat.le_of_lt hK4) _)⟩
                · by_cases h50 : ag < 1125899906842624
                  · go_wp2_with fail
                    go_roundg (m - (j + 1))
                    case measure => omega
                    case rel => exact ⟨j + 1, ⟨0, r, s, pl⟩, (-1), (since + 1), ag + 1, rfl, by omega, by go_num, rfl, rfl, rfl, by omega, by omega, by omega, HI2, Lib.hid (K4.out.alloc _), Lib.hid (B4.out.alloc (Nat.le_of_lt hK4) _)⟩
                  · go_wp2_with fail
                    go_roundg (m - (j + 1))
                    case measure => omega
                    case rel => exact ⟨j + 1, ⟨0, r, s, pl⟩, (-1), (since + 1), ag, rfl, by omega, by go_num, rfl, rfl, rfl, by omega, hag0, hag1, HI2, Lib.hid (K4.out.alloc _), Lib.hid (B4.out.alloc (Nat.le_of_lt hK4) _)⟩
              · obtain rfl := heo ho
                clear heo hen ho
                go_wp2_with fail
                go_at_call 33
                refine (HT2.out).mono ?_
                rintro e w2 ⟨rfl, k2, g2⟩
                have hb2 := below_only HBK.out g2 (Nat.le_of_lt hKw) (Nat.le_refl _)
                have hs2 := k2.lt
                have KC2 := Lib.hid (Blk.below_ KC.out hb2 hcK)
                have RD2 := Lib.hid (RdV.below_ HRD.out hb2 hbK)
                clear c0 c1 c2 c3 q0 q1 q2 q3 q4 q5 q6 q7 q8 hlc hlb
                obtain ⟨c0, c1, c2, c3⟩ := RD2.out.stpAt HD.out
                obtain ⟨q0, q1, q2, q3, q4, q5, q6, q7, q8⟩ := box9 KC2.out
                have hlc := KC2.out.lt
                have hlb := cell_lt c0
                dsimp only at c0 c1 c2 c3
                go_wp2_with fail
                refine gen_world (fun U => Hid (Blk U K 93 (Ck.cells p ⟨0, r, s, pl⟩)) ∧ Hid (Blk U w2.heap.size 64 #[.int .i64 0, .int .i64 0, .int .i64 0]) ∧ Hid (Below K w1 U)) ⟨Lib.hid (k2.alloc _), Lib.hid (Blk.new_ w2 _ _ rfl), Lib.hid (hb2.alloc (by omega) _)⟩ ?_
                obtain ⟨T1, eT1⟩ : ∃ T, w2.heap.size = T := ⟨_, rfl⟩
                rw [eT1]
                rintro U1 ⟨KU1, TU1, BU1⟩
                clear k2 g2 hb2 c0 c1 c2 c3 q0 q1 q2 q3 q4 q5 q6 q7 q8 hlc hlb
                go_at_call 25
                refine (HO.out U1 BU1.out).mono ?_
                rintro e w4 ⟨rfl, hb4⟩
                have B4 := Lib.hid (BU1.out.trans (hb4.mono (Nat.le_of_lt KU1.out.lt)))
                have K4 := Lib.hid (KU1.out.below hb4)
                have hK4 := K4.out.lt
                obtain ⟨y0, y1, y2⟩ := box3 (TU1.out.below hb4)
                have hl4 := (TU1.out.below hb4).lt
                obtain ⟨c0, c1, c2, c3⟩ := (RdV.below_ HRD.out B4.out hbK).stpAt HD.out
                obtain ⟨q0, q1, q2, q3, q4, q5, q6, q7, q8⟩ := box9 (Blk.below_ KC.out B4.out hcK)
                have hlc := (Blk.below_ KC.out B4.out hcK).lt
                have hlb := cell_lt c0
                dsimp only at c0 c1 c2 c3
                clear hb4
                go_upto_region 29 with fail
                cases goes
                · go_wp2_with fail
                  go_roundg (m - (j + 1))
                  case measure => omega
                  case rel => exact ⟨j + 1, ⟨0, r, s, pl⟩, (-1), (since + 1), ag, rfl, by omega, by go_num, rfl, rfl, rfl, by omega, hag0, hag1, HI2, Lib.hid (K4.out.alloc _), Lib.hid (B4.out.alloc (Nat.le_of_lt hK4) _)⟩
                · by_cases h50 : ag < 1125899906842624
                  · go_wp2_with fail
                    go_roundg (m - (j + 1))
                    case measure => omega
                    case rel => exact ⟨j + 1, ⟨0, r, s, pl⟩, (-1), (since + 1), ag + 1, rfl, by omega, by go_num, rfl, rfl, rfl, by omega, by omega, by omega, HI2, Lib.hid (K4.out.alloc _), Lib.hid (B4.out.alloc (Nat.le_of_lt hK4) _)⟩
                  · go_wp2_with fail
                    go_roundg (m - (j + 1))
                    case measure => omega
                    case rel => exact ⟨j + 1, ⟨0, r, s, pl⟩, (-1), (since + 1), ag, rfl, by omega, by go_num, rfl, rfl, rfl, by omega, hag0, hag1, HI2, Lib.hid (K4.out.alloc _), Lib.hid (B4.out.alloc (Nat.le_of_lt hK4) _)⟩
              · obtain rfl := hen ho
                have hup' : (up == 0) = false := by simpa using hup
                clear heo hen ho hup
                go_wp2_with fail
                go_at_call 33
                refine (HT2.out).mono ?_
                rintro e w2 ⟨rfl, k2, g2⟩
                have hb2 := below_only HBK.out g2 (Nat.le_of_lt hKw) (Nat.le_refl _)
                have hs2 := k2.lt
                have KC2 := Lib.hid (Blk.below_ KC.out hb2 hcK)
                have RD2 := Lib.hid (RdV.below_ HRD.out hb2 hbK)
                clear c0 c1 c2 c3 q0 q1 q2 q3 q4 q5 q6 q7 q8 hlc hlb
                obtain ⟨c0, c1, c2, c3⟩ := RD2.out.stpAt HD.out
                obtain ⟨q0, q1, q2, q3, q4, q5, q6, q7, q8⟩ := box9 KC2.out
                have hlc := KC2.out.lt
                have hlb := cell_lt c0
                dsimp only at c0 c1 c2 c3
                go_wp2_with fail
                refine gen_world (fun U => Hid (Blk U K 93 (Ck.cells p ⟨0, r, s, pl⟩)) ∧ Hid (Blk U w2.heap.size 64 #[.int .i64 0, .int .i64 0, .int .i64 0]) ∧ Hid (Below K w1 U)) ⟨Lib.hid (k2.alloc _), Lib.hid (Blk.new_ w2 _ _ rfl), Lib.hid (hb2.alloc (by omega) _)⟩ ?_
                obtain ⟨T1, eT1⟩ : ∃ T, w2.heap.size = T := ⟨_, rfl⟩
                rw [eT1]
                rintro U1 ⟨KU1, TU1, BU1⟩
                clear k2 g2 hb2 c0 c1 c2 c3 q0 q1 q2 q3 q4 q5 q6 q7 q8 hlc hlb
                go_at_call 25
                refine (HO.out U1 BU1.out).mono ?_
                rintro e w4 ⟨rfl, hb4⟩
                have B4 := Lib.hid (BU1.out.trans (hb4.mono (Nat.le_of_lt KU1.out.lt)))
                have K4 := Lib.hid (KU1.out.below hb4)
                have hK4 := K4.out.lt
                obtain ⟨y0, y1, y2⟩ := box3 (TU1.out.below hb4)
                have hl4 := (TU1.out.below hb4).lt
                obtain ⟨c0, c1, c2, c3⟩ := (RdV.below_ HRD.out B4.out hbK).stpAt HD.out
                obtain ⟨q0, q1, q2, q3, q4, q5, q6, q7, q8⟩ := box9 (Blk.below_ KC.out B4.out hcK)
                have hlc := (Blk.below_ KC.out B4.out hcK).lt
                have hlb := cell_lt c0
                dsimp only at c0 c1 c2 c3
                clear hb4
                go_upto_region 29 with fail
                cases goes
                · go_wp2_with fail
                  go_roundg (m - (j + 1))
                  case measure => omega
                  case rel => exact ⟨j + 1, ⟨0, r, s, pl⟩, (-1), (since + 1), ag, rfl, by omega, by go_num, rfl, rfl, rfl, by omega, hag0, hag1, HI2, Lib.hid (K4.out.alloc _), Lib.hid (B4.out.alloc (Nat.le_of_lt hK4) _)⟩
                · by_cases h50 : ag < 1125899906842624
                  · go_wp2_with fail
                    go_roundg (m - (j + 1))
                    case measure => omega
                    case rel => exact ⟨j + 1, ⟨0, r, s, pl⟩, (-1), (since + 1), ag + 1, rfl, by omega, by go_num, rfl, rfl, rfl, by omega, by omega, by omega, HI2, Lib.hid (K4.out.alloc _), Lib.hid (B4.out.alloc (Nat.le_of_lt hK4) _)⟩
                  · go_wp2_with fail
                    go_roundg (m - (j + 1))
                    case measure => omega
                    case rel => exact ⟨j + 1, ⟨0, r, s, pl⟩, (-1), (since + 1), ag, rfl, by omega, by go_num, rfl, rfl, rfl, by omega, hag0, hag1, HI2, Lib.hid (K4.out.alloc _), Lib.hid (B4.out.alloc (Nat.le_of_lt hK4) _)⟩
            · skip
              rcases hb with rfl | ⟨rfl, ho⟩ | ⟨rfl, ho, hup⟩
              · clear heo hen
                go_wp2_with fail
                go_at_call 33
                refine (HT2.out).mono ?_
                rintro e w2 ⟨rfl, k2, g2⟩
                have hb2 := below_only HBK.out g2 (Nat.le_of_lt hKw) (Nat.le_refl _)
                have hs2 := k2.lt
                have KC2 := Lib.hid (Blk.below_ KC.out hb2 hcK)
                have RD2 := Lib.hid (RdV.below_ HRD.out hb2 hbK)
                clear c0 c1 c2 c3 q0 q1 q2 q3 q4 q5 q6 q7 q8 hlc hlb
                obtain ⟨c0, c1, c2, c3⟩ := RD2.out.stpAt HD.out
                obtain ⟨q0, q1, q2, q3, q4, q5, q6, q7, q8⟩ := box9 KC2.out
                have hlc := KC2.out.lt
                have hlb := cell_lt c0
                dsimp only at c0 c1 c2 c3
                go_wp2_with fail
                refine gen_world (fun U => Hid (Blk U K 93 (Ck.cells p ⟨0, r, s, pl⟩)) ∧ Hid (Blk U w2.heap.size 64 #[.int .i64 0, .int .i64 0, .int .i64 0]) ∧ Hid (Below K w1 U)) ⟨Lib.hid (k2.alloc _), Lib.hid (Blk.new_ w2 _ _ rfl), Lib.hid (hb2.alloc (by omega) _)⟩ ?_
                obtain ⟨T1, eT1⟩ : ∃ T, w2.heap.size = T := ⟨_, rfl⟩
                rw [eT1]
                rintro U1 ⟨KU1, TU1, BU1⟩
                clear k2 g2 hb2 c0 c1 c2 c3 q0 q1 q2 q3 q4 q5 q6 q7 q8 hlc hlb
                go_at_call 25
                refine (HO.out U1 BU1.out).mono ?_
                rintro e w4 ⟨rfl, hb4⟩
                have B4 := Lib.hid (BU1.out.trans (hb4.mono (Nat.le_of_lt KU1.out.lt)))
                have K4 := Lib.hid (KU1.out.below hb4)
                have hK4 := K4.out.lt
                obtain ⟨y0, y1, y2⟩ := box3 (TU1.out.below hb4)
                have hl4 := (TU1.out.below hb4).lt
                obtain ⟨c0, c1, c2, c3⟩ := (RdV.below_ HRD.out B4.out hbK).stpAt HD.out
                obtain ⟨q0, q1, q2, q3, q4, q5, q6, q7, q8⟩ := box9 (Blk.below_ KC.out B4.out hcK)
                have hlc := (Blk.below_ KC.out B4.out hcK).lt
                have hlb := cell_lt c0
                dsimp only at c0 c1 c2 c3
                clear hb4
                go_upto_region 29 with fail
                cases goes
                · go_wp2_with fail
                  go_roundg (m - (j + 1))
                  case measure => omega
                  case rel => exact ⟨j + 1, ⟨0, r, s, pl⟩, (-1), (since + 1), ag, rfl, by omega, by go_num, rfl, rfl, rfl, by omega, hag0, hag1, HI2, Lib.hid (K4.out.alloc _), Lib.hid (B4.out.alloc (Nat.le_of_lt hK4) _)⟩
                · by_cases h50 : ag < 1125899906842624
                  · go_wp2_with fail
                    go_roundg (m - (j + 1))
                    case measure => omega
                    case rel => exact ⟨j + 1, ⟨0, r, s, pl⟩, (-1), (since + 1), ag + 1, rfl, by omega, by go_num, rfl, rfl, rfl, by omega, by omega, by omega, HI2, Lib.hid (K4.out.alloc _), Lib.hid (B4.out.alloc (Nat.le_of_lt hK4) _)⟩
                  · go_wp2_with fail
                    go_roundg (m - (j + 1))
                    case measure => omega
                    case rel => exact ⟨j + 1, ⟨0, r, s, pl⟩, (-1), (since + 1), ag, rfl, by omega, by go_num, rfl, rfl, rfl, by omega, hag0, hag1, HI2, Lib.hid (K4.out.alloc _), Lib.hid (B4.out.alloc (Nat.le_of_lt hK4) _)⟩
              · obtain rfl := heo ho
                clear heo hen ho
                go_wp2_with fail
                go_at_call 33
                refine (HT2.out).mono ?_
                rintro e w2 ⟨rfl, k2, g2⟩
                have hb2 := below_only HBK.out g2 (Nat.le_of_lt hKw) (Nat.le_refl _)
                have hs2 := k2.lt
                have KC2 := Lib.hid (Blk.below_ KC.out hb2 hcK)
                have RD2 := Lib.hid (RdV.below_ HRD.out hb2 hbK)
                clear c0 c1 c2 c3 q0 q1 q2 q3 q4 q5 q6 q7 q8 hlc hlb
                obtain ⟨c0, c1, c2, c3⟩ := RD2.out.stpAt HD.out
                obtain ⟨q0, q1, q2, q3, q4, q5, q6, q7, q8⟩ := box9 KC2.out
                have hlc := KC2.out.lt
                have hlb := cell_lt c0
                dsimp only at c0 c1 c2 c3
                go_wp2_with fail
                refine gen_world (fun U => Hid (Blk U K 93 (Ck.cells p ⟨0, r, s, pl⟩)) ∧ Hid (Blk U w2.heap.size 64 #[.int .i64 0, .int .i64 0, .int .i64 0]) ∧ Hid (Below K w1 U)) ⟨Lib.hid (k2.alloc _), Lib.hid (Blk.new_ w2 _ _ rfl), Lib.hid (hb2.alloc (by omega) _)⟩ ?_
                obtain ⟨T1, eT1⟩ : ∃ T, w2.heap.size = T := ⟨_, rfl⟩
                rw [eT1]
                rintro U1 ⟨KU1, TU1, BU1⟩
                clear k2 g2 hb2 c0 c1 c2 c3 q0 q1 q2 q3 q4 q5 q6 q7 q8 hlc hlb
                go_at_call 25
                refine (HO.out U1 BU1.out).mono ?_
                rintro e w4 ⟨rfl, hb4⟩
                have B4 := Lib.hid (BU1.out.trans (hb4.mono (Nat.le_of_lt KU1.out.lt)))
                have K4 := Lib.hid (KU1.out.below hb4)
                have hK4 := K4.out.lt
                obtain ⟨y0, y1, y2⟩ := box3 (TU1.out.below hb4)
                have hl4 := (TU1.out.below hb4).lt
                obtain ⟨c0, c1, c2, c3⟩ := (RdV.below_ HRD.out B4.out hbK).stpAt HD.out
                obtain ⟨q0, q1, q2, q3, q4, q5, q6, q7, q8⟩ := box9 (Blk.below_ KC.out B4.out hcK)
                have hlc := (Blk.below_ KC.out B4.out hcK).lt
                have hlb := cell_lt c0
                dsimp only at c0 c1 c2 c3
                clear hb4
                go_upto_region 29 with fail
                cases goes
                · go_wp2_with fail
                  go_roundg (m - (j + 1))
                  case measure => omega
                  case rel => exact ⟨j + 1, ⟨0, r, s, pl⟩, (-1), (since + 1), ag, rfl, by omega, by go_num, rfl, rfl, rfl, by omega, hag0, hag1, HI2, Lib.hid (K4.out.alloc _), Lib.hid (B4.out.alloc (Nat.le_of_lt hK4) _)⟩
                · by_cases h50 : ag < 1125899906842624
                  · go_wp2_with fail
                    go_roundg (m - (j + 1))
                    case measure => omega
                    case rel => exact ⟨j + 1, ⟨0, r, s, pl⟩, (-1), (since + 1), ag + 1, rfl, by omega, by go_num, rfl, rfl, rfl, by omega, by omega, by omega, HI2, Lib.hid (K4.out.alloc _), Lib.hid (B4.out.alloc (Nat.le_of_lt hK4) _)⟩
                  · go_wp2_with fail
                    go_roundg (m - (j + 1))
                    case measure => omega
                    case rel => exact ⟨j + 1, ⟨0, r, s, pl⟩, (-1), (since + 1), ag, rfl, by omega, by go_num, rfl, rfl, rfl, by omega, hag0, hag1, HI2, Lib.hid (K4.out.alloc _), Lib.hid (B4.out.alloc (Nat.le_of_lt hK4) _)⟩
              · obtain rfl := hen ho
                have hup' : (up == 0) = false := by simpa using hup
                clear heo hen ho hup
                go_wp2_with fail
                go_at_call 33
                refine (HT2.out).mono ?_
                rintro e w2 ⟨rfl, k2, g2⟩
                have hb2 := below_only HBK.out g2 (Nat.le_of_lt hKw) (Nat.le_refl _)
                have hs2 := k2.lt
                have KC2 := Lib.hid (Blk.below_ KC.out hb2 hcK)
                have RD2 := Lib.hid (RdV.below_ HRD.out hb2 hbK)
                clear c0 c1 c2 c3 q0 q1 q2 q3 q4 q5 q6 q7 q8 hlc hlb
                obtain ⟨c0, c1, c2, c3⟩ := RD2.out.stpAt HD.out
                obtain ⟨q0, q1, q2, q3, q4, q5, q6, q7, q8⟩ := box9 KC2.out
                have hlc := KC2.out.lt
                have hlb := cell_lt c0
                dsimp only at c0 c1 c2 c3
                go_wp2_with fail
                refine gen_world (fun U => Hid (Blk U K 93 (Ck.cells p ⟨0, r, s, pl⟩)) ∧ Hid (Blk U w2.heap.size 64 #[.int .i64 0, .int .i64 0, .int .i64 0]) ∧ Hid (Below K w1 U)) ⟨Lib.hid (k2.alloc _), Lib.hid (Blk.new_ w2 _ _ rfl), Lib.hid (hb2.alloc (by omega) _)⟩ ?_
                obtain ⟨T1, eT1⟩ : ∃ T, w2.heap.size = T := ⟨_, rfl⟩
                rw [eT1]
                rintro U1 ⟨KU1, TU1, BU1⟩
                clear k2 g2 hb2 c0 c1 c2 c3 q0 q1 q2 q3 q4 q5 q6 q7 q8 hlc hlb
                go_at_call 25
                refine (HO.out U1 BU1.out).mono ?_
                rintro e w4 ⟨rfl, hb4⟩
                have B4 := Lib.hid (BU1.out.trans (hb4.mono (Nat.le_of_lt KU1.out.lt)))
                have K4 := Lib.hid (KU1.out.below hb4)
                have hK4 := K4.out.lt
                obtain ⟨y0, y1, y2⟩ := box3 (TU1.out.below hb4)
                have hl4 := (TU1.out.below hb4).lt
                obtain ⟨c0, c1, c2, c3⟩ := (RdV.below_ HRD.out B4.out hbK).stpAt HD.out
                obtain ⟨q0, q1, q2, q3, q4, q5, q6, q7, q8⟩ := box9 (Blk.below_ KC.out B4.out hcK)
                have hlc := (Blk.below_ KC.out B4.out hcK).lt
                have hlb := cell_lt c0
                dsimp only at c0 c1 c2 c3
                clear hb4
                go_upto_region 29 with fail
                cases goes
                · go_wp2_with fail
                  go_roundg (m - (j + 1))
                  case measure => omega
                  case rel => exact ⟨j + 1, ⟨0, r, s, pl⟩, (-1), (since + 1), ag, rfl, by omega, by go_num, rfl, rfl, rfl, by omega, hag0, hag1, HI2, Lib.hid (K4.out.alloc _), Lib.hid (B4.out.alloc (Nat.le_of_lt hK4) _)⟩
                · by_cases h50 : ag < 1125899906842624
                  · go_wp2_with fail
                    go_roundg (m - (j + 1))
                    case measure => omega
                    case rel => exact ⟨j + 1, ⟨0, r, s, pl⟩, (-1), (since + 1), ag + 1, rfl, by omega, by go_num, rfl, rfl, rfl, by omega, by omega, by omega, HI2, Lib.hid (K4.out.alloc _), Lib.hid (B4.out.alloc (Nat.le_of_lt hK4) _)⟩
                  · go_wp2_with fail
                    go_roundg (m - (j + 1))
                    case measure => omega
                    case rel => exact ⟨j + 1, ⟨0, r, s, pl⟩, (-1), (since + 1), ag, rfl, by omega, by go_num, rfl, rfl, rfl, by omega, hag0, hag1, HI2, Lib.hid (K4.out.alloc _), Lib.hid (B4.out.alloc (Nat.le_of_lt hK4) _)⟩
        · obtain rfl : j = m := by omega
          go_wp2_with fail
          go_roundg (ds.length - (i + 1))
          case measure => omega
          case rel => exact ⟨i + 1, k, place, since, rfl, by omega, by go_num, rfl, rfl, by omega, HI, KK, HBK⟩
    · obtain rfl : i = ds.length := by omega
      go_wp2_with fail
      go_at_call 24
      refine (lives6_any _ (HS.out.below (Below.then_ HB1.out (by rw [eK]; exact HBK.out)))).mono ?_
      rintro e w2 ⟨rfl, hb2⟩
      go_wp2_with fail
      go_ret
      exact ⟨rfl, Below.then_ (Below.then_ HB1.out (by rw [eK]; exact HBK.out)) hb2⟩

theorem lawWhole_any (n : Int) (A1 : Option Addr) (c1 : Nat) (ps : List Int) (A2 : Option Addr) (c2 : Nat) (ss : List Int) (long : Int) (A3 : Option Addr) (c3 : Nat) (bs : List Int) (A4 : Option Addr) (c4 : Nat) (st : List Stn) (miss good fresh : Int) (Al : Option Addr) (cl : Nat) (ds : List Stp) (w : World) (hs : Signs w) (r1 : RdI w A1 ps) (r2 : RdI w A2 ss) (r3 : RdI w A3 bs) (r4 : RdV w A4 (stnCells st)) (n1 : A1 = none → ps.length = 0) (n2 : A2 = none → ss.length = 0) (n3 : A3 = none → bs.length = 0) (n4 : A4 = none → st.length = 0)
    (hrd : RdV w Al (stpCells ds)) (hst : ∀ d ∈ ds, (0 ≤ d.many ∧ d.many < 65536) ∧ I64 d.age) (hl : ds.length ≤ 9223372036854775807) :
    Calls Tryd.prog 8 #[(.agg #[.int .i64 n, .slice A1 ps.length c1, .slice A2 ss.length c2, .int .i64 long, .slice A3 bs.length c3, .slice A4 st.length c4, .int .i64 miss, .int .i64 good, .int .i64 fresh]), .slice Al ds.length cl] w fun e w' => e = .returned (.bool true) ∧ Below w.heap.size w w' := by
  by_cases hg : GreatP ps ss bs st
  · exact lawWhole_none n A1 c1 ps A2 c2 ss long A3 c3 bs A4 c4 st miss good fresh Al cl ds w hs fun W hb => net6_great n A1 c1 ps A2 c2 ss long A3 c3 bs A4 c4 st miss good fresh W hg
  · have hc : CfgIn w A1 ps A2 ss A3 bs A4 st := ⟨hs, r1, r2, r3, r4, by unfold GreatP at hg; omega, by unfold GreatP at hg; omega, by unfold GreatP at hg; omega, by unfold GreatP at hg; omega, n1, n2, n3, n4⟩
    by_cases hb : newE ⟨n, ps, ss, long, bs, st, miss, good, fresh⟩ = 0
    · exact lawWhole_ok n A1 c1 ps A2 c2 ss long A3 c3 bs A4 c4 st miss good fresh Al cl ds w hs hg hc hb hrd hst hl
    · exact lawWhole_none n A1 c1 ps A2 c2 ss long A3 c3 bs A4 c4 st miss good fresh Al cl ds w hs fun W hW => net6_bad n A1 c1 ps A2 c2 ss long A3 c3 bs A4 c4 st miss good fresh W hg (hc.below hW) hb
end Go.Proofs.YtmpkpikamogpdaaDoor.K
