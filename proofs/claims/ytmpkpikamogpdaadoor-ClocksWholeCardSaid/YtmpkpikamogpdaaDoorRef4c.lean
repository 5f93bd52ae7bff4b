/- sennitref04.New: by whatever config, what is wrong with it is what the program says. -/
import Derived.Test.YtmpkpikamogpdaaDoorRef4b
namespace Go.Proofs.YtmpkpikamogpdaaDoor.K
open Go.RowKit

theorem nz_of {a : Int} (h : ¬ a = 0) : ∃ r, a = r ∧ (r != 0) = true := ⟨a, rfl, by simpa using h⟩
theorem mustB (b : Bool) : (mustE b = 0) ↔ b = true := by cases b <;> simp [mustE]
theorem refNext {c : Cfg} {k : Nat} (h : ∀ j, j < k → ruleE c j = 0) (e : ruleE c k = 0) : ∀ j, j < k + 1 → ruleE c j = 0 := fun j hj => by
  rcases Nat.lt_succ_iff_lt_or_eq.1 hj with h' | rfl
  · exact h j h'
  · exact e
theorem blk_rdI' {w : World} {g : Nat} {t : TypeId} {xs : List Int} (h : Blk w g t (xs.map (Value.int .i64)).toArray) : RdI w (some ⟨g, 0, none⟩) xs :=
  RdV.toI fun _ => ⟨g, 0, rfl, fun j u hj => by rw [Nat.zero_add, h.cell j, List.getElem?_toArray]; exact hj⟩
theorem refNone {c : Cfg} : ∀ j, j < 0 → ruleE c j = 0 := fun j hj => by omega

set_option maxRecDepth 100000 in
set_option maxHeartbeats 8000000 in
theorem refNew_any (n : Int) (A1 : Option Addr) (c1 : Nat) (ps : List Int) (A2 : Option Addr) (c2 : Nat) (ss : List Int) (long : Int) (A3 : Option Addr) (c3 : Nat) (bs : List Int) (A4 : Option Addr) (c4 : Nat) (st : List Stn) (miss good fresh : Int) (w : World) (hc : CfgIn w A1 ps A2 ss A3 bs A4 st) :
    Calls Tryd.prog 17 #[(.agg #[.int .i64 n, .slice A1 ps.length c1, .slice A2 ss.length c2, .int .i64 long, .slice A3 bs.length c3, .slice A4 st.length c4, .int .i64 miss, .int .i64 good, .int .i64 fresh])] w fun e w' => e = .returned (.int .i64 (newE ⟨n, ps, ss, long, bs, st, miss, good, fresh⟩)) ∧ Below w.heap.size w w' := by
  have HC := Lib.hid hc
  clear hc
  have F0 := Lib.hid (refNone (c := ⟨n, ps, ss, long, bs, st, miss, good, fresh⟩))
  go_enter Tryd.func17, Tryd.ntmps17
  go_wp2_with fail
  by_cases z0 : withinE n 4 16 = 0
  case neg =>
    obtain ⟨r, er, hr⟩ := nz_of z0
    have ER := Lib.hid er
    clear er z0
    go_at_call 48
    refine (refWithin_any n 4 16 _).mono ?_
    rw [ER.out]
    rintro e w' ⟨rfl, rfl⟩
    go_wp2
    go_ret
    exact ⟨ret_int (Eq.symm ((newE_at (k := 0) (by omega) F0.out (by show withinE n 4 16 ≠ 0; rw [ER.out]; simpa using hr)).trans ER.out)), ba _ _⟩
  case pos =>
    have Z0 := Lib.hid z0
    have F1 := Lib.hid (refNext F0.out (show ruleE ⟨n, ps, ss, long, bs, st, miss, good, fresh⟩ 0 = 0 from z0))
    have hn := within_zero z0
    clear z0
    go_at_call 48
    refine (refWithin_any n 4 16 _).mono ?_
    rw [Z0.out]
    rintro e w' ⟨rfl, rfl⟩
    go_wp2_with fail
    by_cases z1 : withinE ps.length 2 8 = 0
    case neg =>
      obtain ⟨r, er, hr⟩ := nz_of z1
      have ER := Lib.hid er
      clear er z1
      go_at_call 48
      refine (refWithin_any ps.length 2 8 _).mono ?_
      rw [ER.out]
      rintro e w' ⟨rfl, rfl⟩
      go_wp2
      go_ret
      exact ⟨ret_int (Eq.symm ((newE_at (k := 1) (by omega) F1.out (by show withinE ps.length 2 8 ≠ 0; rw [ER.out]; simpa using hr)).trans ER.out)), ba _ _⟩
    case pos =>
      have Z1 := Lib.hid z1
      have F2 := Lib.hid (refNext F1.out (show ruleE ⟨n, ps, ss, long, bs, st, miss, good, fresh⟩ 1 = 0 from z1))
      have hp := within_zero z1
      clear z1
      go_at_call 48
      refine (refWithin_any ps.length 2 8 _).mono ?_
      rw [Z1.out]
      rintro e w' ⟨rfl, rfl⟩
      go_wp2_with fail
      have HP := Lib.hid (refPairs_any n A1 c1 ps A2 c2 ss long A3 c3 bs A4 c4 st miss good fresh (w.alloc (.cells #[.int .i64 n, .slice A1 ps.length c1, .slice A2 ss.length c2, .int .i64 long, .slice A3 bs.length c3, .slice A4 st.length c4, .int .i64 miss, .int .i64 good, .int .i64 fresh] 44)) (HC.out.below (ba _ _)).r1 hn.1 hn.2 (by omega))
      by_cases z2 : pairsB n ps = true
      case neg =>
        have z2' : pairsB n ps = false := by simpa using z2
        have Z2 := Lib.hid z2'
        clear z2 z2'
        go_at_call 49
        refine (HP.out).mono ?_
        rw [Z2.out]
        rintro e w1 ⟨rfl, hb1⟩
        go_wp2
        go_ret
        have hr3 : ruleE ⟨n, ps, ss, long, bs, st, miss, good, fresh⟩ 2 = 1 := by show mustE (pairsB n ps) = 1; rw [Z2.out]; rfl
        exact ⟨ret_int (Eq.symm ((newE_at (k := 2) (by omega) F2.out (by rw [hr3]; decide)).trans hr3)), Below.then_ (ba _ _) hb1⟩
      case pos =>
        have Z2 := Lib.hid z2
        have F3 := Lib.hid (refNext F2.out (show ruleE ⟨n, ps, ss, long, bs, st, miss, good, fresh⟩ 2 = 0 by show mustE (pairsB n ps) = 0; rw [z2]; rfl))
        clear z2
        go_at_call 49
        refine (HP.out).mono ?_
        rw [Z2.out]
        rintro e w1 ⟨rfl, hb1⟩
        have k1 := (Blk.new_ w 44 #[.int .i64 n, .slice A1 ps.length c1, .slice A2 ss.length c2, .int .i64 long, .slice A3 bs.length c3, .slice A4 st.length c4, .int .i64 miss, .int .i64 good, .int .i64 fresh] rfl).below hb1
        obtain ⟨q0, q1, q2, q3, q4, q5, q6, q7, q8⟩ := box9 k1
        have hl1 := k1.lt
        have K1 := Lib.hid k1
        have HB1 := Lib.hid (Below.then_ (ba _ _) hb1)
        clear k1 hb1 HP
        go_wp2_with fail
        by_cases z3 : withinE ss.length 1 16 = 0
        case neg =>
          obtain ⟨r, er, hr⟩ := nz_of z3
          have ER := Lib.hid er
          clear er z3
          go_at_call 48
          refine (refWithin_any ss.length 1 16 _).mono ?_
          rw [ER.out]
          rintro e w' ⟨rfl, rfl⟩
          go_wp2
          go_ret
          exact ⟨ret_int (Eq.symm ((newE_at (k := 3) (by omega) F3.out (by show withinE ss.length 1 16 ≠ 0; rw [ER.out]; simpa using hr)).trans ER.out)), HB1.out⟩
        case pos =>
          have Z3 := Lib.hid z3
          have F4 := Lib.hid (refNext F3.out (show ruleE ⟨n, ps, ss, long, bs, st, miss, good, fresh⟩ 3 = 0 from z3))
          have hs := within_zero z3
          clear z3
          go_at_call 48
          refine (refWithin_any ss.length 1 16 _).mono ?_
          rw [Z3.out]
          rintro e w' ⟨rfl, rfl⟩
          go_wp2_with fail
          have HP := Lib.hid (refSlots_any n A1 c1 ps A2 c2 ss long A3 c3 bs A4 c4 st miss good fresh w1 (HC.out.below HB1.out).r2 (by omega) (by omega))
          by_cases z4 : slotsOkB ps.length ss = true
          case neg =>
            have z4' : slotsOkB ps.length ss = false := by simpa using z4
            have Z4 := Lib.hid z4'
            clear z4 z4'
            go_at_call 50
            refine (HP.out).mono ?_
            rw [Z4.out]
            rintro e w2 ⟨rfl, hb2⟩
            go_wp2
            go_ret
            have hr5 : ruleE ⟨n, ps, ss, long, bs, st, miss, good, fresh⟩ 4 = 1 := by show mustE (slotsOkB ps.length ss) = 1; rw [Z4.out]; rfl
            exact ⟨ret_int (Eq.symm ((newE_at (k := 4) (by omega) F4.out (by rw [hr5]; decide)).trans hr5)), Below.then_ HB1.out hb2⟩
          case pos =>
            have Z4 := Lib.hid z4
            have F5 := Lib.hid (refNext F4.out (show ruleE ⟨n, ps, ss, long, bs, st, miss, good, fresh⟩ 4 = 0 by show mustE (slotsOkB ps.length ss) = 0; rw [z4]; rfl))
            clear z4 q0 q1 q2 q3 q4 q5 q6 q7 q8 hl1
            go_at_call 50
            refine (HP.out).mono ?_
            rw [Z4.out]
            rintro e w2 ⟨rfl, hb2⟩
            have k2 := K1.out.below hb2
            obtain ⟨q0, q1, q2, q3, q4, q5, q6, q7, q8⟩ := box9 k2
            have hl1 := k2.lt
            have K2 := Lib.hid k2
            have HB2 := Lib.hid (Below.then_ HB1.out hb2)
            clear k2 hb2 HP K1 HB1
            go_wp2_with fail
            by_cases z5 : withinE long (max (3 * n + 1) (n + 116)) 4096 = 0
            case neg =>
              obtain ⟨r, er, hr⟩ := nz_of z5
              have ER := Lib.hid er
              clear er z5
              go_at_call 48
              refine (refWithin_any long (max (3 * n + 1) (n + 116)) 4096 _).mono ?_
              rw [ER.out]
              rintro e w' ⟨rfl, rfl⟩
              go_wp2
              go_ret
              exact ⟨ret_int (Eq.symm ((newE_at (k := 5) (by omega) F5.out (by show withinE long (max (3 * n + 1) (n + 116)) 4096 ≠ 0; rw [ER.out]; simpa using hr)).trans ER.out)), HB2.out⟩
            case pos =>
              have Z5 := Lib.hid z5
              have F6 := Lib.hid (refNext F5.out (show ruleE ⟨n, ps, ss, long, bs, st, miss, good, fresh⟩ 5 = 0 from z5))
              clear z5
              go_at_call 48
              refine (refWithin_any long (max (3 * n + 1) (n + 116)) 4096 _).mono ?_
              rw [Z5.out]
              rintro e w' ⟨rfl, rfl⟩
              cases hbn : ((bs.length : Int) == n)
              case false =>
                have hbn' : ((bs.length : Int) != n) = true := by simpa using hbn
                have HBN := Lib.hid hbn
                clear hbn
                go_wp2_with fail
                go_ret
                have hr7 : ruleE ⟨n, ps, ss, long, bs, st, miss, good, fresh⟩ 6 = 1 := by show first2 (mustE ((bs.length : Int) == n)) (eachE bs 0 4096) = 1; rw [HBN.out]; rfl
                exact ⟨ret_int (Eq.symm ((newE_at (k := 6) (by omega) F6.out (by rw [hr7]; decide)).trans hr7)), HB2.out⟩
              case true =>
                have hbn' : ((bs.length : Int) != n) = false := by simpa using hbn
                have HBN := Lib.hid hbn
                clear hbn
                go_wp2_with fail
                have HRB := Lib.hid (HC.out.below HB2.out).r3
                have HLB := Lib.hid HC.out.l3
                have hbl : bs.length ≤ 16 := by
                  have := HBN.out
                  simp at this
                  omega
                go_loop [3, 4] (fun _ i => ∃ k : Nat, k ≤ bs.length ∧ i = .int .i64 k ∧ Hid (∀ j, j < k → withinE (bs[j]?.getD 0) 0 4096 = 0)) (fun _ i => bs.length - (intOf i).toNat)
                case atStart => exact ⟨0, Nat.zero_le _, rfl, Lib.hid fun j hj => by omega⟩
                case round =>
                  obtain ⟨k, hk, rfl, HF⟩ := hrel
                  by_cases hlt : k < bs.length
                  · obtain ⟨b, off, rfl, hcs⟩ := HRB.out.at_ hlt
                    have hcx := hcs k hlt
                    obtain ⟨x, hx⟩ : ∃ x, bs[k]?.getD 0 = x := ⟨_, rfl⟩
                    rw [hx] at hcx
                    have HX := Lib.hid hx
                    clear hcs hx
                    by_cases zk : withinE x 0 4096 = 0
                    · have ZK := Lib.hid zk
                      clear zk
                      go_wp2_with (go_at_call 48; refine (refWithin_any x 0 4096 _).mono ?_; rw [ZK.out]; rintro e w' ⟨rfl, rfl⟩)
                      go_round
                      case rel => exact ⟨k + 1, by omega, by go_num, Lib.hid fun j hj => by
                        rcases Nat.lt_succ_iff_lt_or_eq.1 hj with h | rfl
                        · exact HF.out j h
                        · rw [HX.out]; exact ZK.out⟩
                      case measure => simp [intOf]; omega
                    · obtain ⟨r, er, hr⟩ := nz_of zk
                      have ER := Lib.hid er
                      clear er zk
                      go_wp2_with (go_at_call 48; refine (refWithin_any x 0 4096 _).mono ?_; rw [ER.out]; rintro e w' ⟨rfl, rfl⟩)
                      go_ret
                      have hr7 : ruleE ⟨n, ps, ss, long, bs, st, miss, good, fresh⟩ 6 = r := by
                        show first2 (mustE ((bs.length : Int) == n)) (eachE bs 0 4096) = r
                        rw [HBN.out, show mustE true = 0 from rfl, first2, if_pos rfl, eachE_at hlt HF.out (by rw [HX.out, ER.out]; simpa using hr), HX.out, ER.out]
                      exact ⟨ret_int (Eq.symm ((newE_at (k := 6) (by omega) F6.out (by rw [hr7]; simpa using hr)).trans hr7)), HB2.out⟩
                  · obtain rfl : k = bs.length := by omega
                    have F7 := Lib.hid (refNext F6.out (show ruleE ⟨n, ps, ss, long, bs, st, miss, good, fresh⟩ 6 = 0 by
                      show first2 (mustE ((bs.length : Int) == n)) (eachE bs 0 4096) = 0
                      rw [HBN.out, show mustE true = 0 from rfl, first2, if_pos rfl, eachE_all HF.out]))
                    clear HF
                    go_wp2_with fail
                    by_cases z7 : withinE st.length 0 8 = 0
                    case neg =>
                      obtain ⟨r, er, hr⟩ := nz_of z7
                      have ER := Lib.hid er
                      clear er z7
                      go_at_call 48
                      refine (refWithin_any st.length 0 8 _).mono ?_
                      rw [ER.out]
                      rintro e w' ⟨rfl, rfl⟩
                      go_wp2
                      go_ret
                      exact ⟨ret_int (Eq.symm ((newE_at (k := 7) (by omega) F7.out (by show withinE st.length 0 8 ≠ 0; rw [ER.out]; simpa using hr)).trans ER.out)), HB2.out⟩
                    case pos =>
                      have Z7 := Lib.hid z7
                      have F8 := Lib.hid (refNext F7.out (show ruleE ⟨n, ps, ss, long, bs, st, miss, good, fresh⟩ 7 = 0 from z7))
                      have hst := within_zero z7
                      clear z7
                      go_at_call 48
                      refine (refWithin_any st.length 0 8 _).mono ?_
                      rw [Z7.out]
                      rintro e w' ⟨rfl, rfl⟩
                      go_wp2_with fail
                      clear q0 q1 q2 q3 q4 q5 q6 q7 q8 hl1
                      have HRS := Lib.hid (HC.out.below HB2.out).r4
                      go_loopw [3, 5, 6] (fun _ i _ wr => ∃ k : Nat, k ≤ st.length ∧ i = .int .i64 k ∧ Hid (Below w2.heap.size w2 wr) ∧ Hid (∀ (j : Nat) (s : Stn), j < k → st[j]? = some s → stnE n s = 0)) (fun _ i _ _ => st.length - (intOf i).toNat)
                      case atStart => exact ⟨0, Nat.zero_le _, rfl, Lib.hid (Below.refl _ _), Lib.hid fun j s hj => by omega⟩
                      case round =>
                        obtain ⟨k, hk, rfl, HN, HF⟩ := hrel
                        obtain ⟨q0, q1, q2, q3, q4, q5, q6, q7, q8⟩ := box9 (K2.out.below HN.out)
                        have hlw := (K2.out.below HN.out).lt
                        by_cases hlt : k < st.length
                        · obtain ⟨b, off, s, rfl, hs, hc0, hc1, hc2⟩ := (HRS.out.below HN.out).stn hlt
                          have HS := Lib.hid hs
                          clear hs
                          obtain ⟨sn, sf, sh⟩ := s
                          dsimp only at hc0 hc1 hc2
                          by_cases hb1 : sn < 0
                          · go_wp2
                            go_ret
                            have he : stnE n ⟨sn, sf, sh⟩ = 1 := by
                              unfold stnE
                              rw [show (decide (0 ≤ sn) && decide (sn < n)) = false by simp; omega]
                              rfl
                            have hr9 : ruleE ⟨n, ps, ss, long, bs, st, miss, good, fresh⟩ 8 = 1 := by
                              show rule9 n st = 1
                              rw [rule9_at HS.out (fun j s hj hs => HF.out j s hj hs) (by rw [he]; decide), he]
                            exact ⟨ret_int (Eq.symm ((newE_at (k := 8) (by omega) F8.out (by rw [hr9]; decide)).trans hr9)), Below.then_ HB2.out (Below.allocW HN.out _)⟩
                          · by_cases hb2 : n ≤ sn
                            · go_wp2
                              go_ret
                              have he : stnE n ⟨sn, sf, sh⟩ = 1 := by
                                unfold stnE
                                rw [show (decide (0 ≤ sn) && decide (sn < n)) = false by simp; omega]
                                rfl
                              have hr9 : ruleE ⟨n, ps, ss, long, bs, st, miss, good, fresh⟩ 8 = 1 := by
                                show rule9 n st = 1
                                rw [rule9_at HS.out (fun j s hj hs => HF.out j s hj hs) (by rw [he]; decide), he]
                              exact ⟨ret_int (Eq.symm ((newE_at (k := 8) (by omega) F8.out (by rw [hr9]; decide)).trans hr9)), Below.then_ HB2.out (Below.allocW HN.out _)⟩
                            · have hge : stnE n ⟨sn, sf, sh⟩ = withinE sh 1 100 := by
                                unfold stnE
                                rw [show (decide (0 ≤ sn) && decide (sn < n)) = true by simp; omega]
                                rfl
                              have HGE := Lib.hid hge
                              clear hge
                              by_cases zk : withinE sh 1 100 = 0
                              · have ZK := Lib.hid zk
                                clear zk
                                go_wp2_with (go_at_call 48; refine (refWithin_any sh 1 100 _).mono ?_; rw [ZK.out]; rintro e w' ⟨rfl, rfl⟩)
                                go_roundw
                                case rel => exact ⟨k + 1, by omega, by go_num, Lib.hid (Below.allocW HN.out _), Lib.hid fun j s hj hs => by
                                  rcases Nat.lt_succ_iff_lt_or_eq.1 hj with h | rfl
                                  · exact HF.out j s h hs
                                  · have := HS.out
                                    rw [this] at hs
                                    cases hs
                                    rw [HGE.out]; exact ZK.out⟩
                                case measure => simp [intOf]; omega
                              · obtain ⟨r, er, hr⟩ := nz_of zk
                                have ER := Lib.hid er
                                clear er zk
                                go_wp2_with (go_at_call 48; refine (refWithin_any sh 1 100 _).mono ?_; rw [ER.out]; rintro e w' ⟨rfl, rfl⟩)
                                go_ret
                                have hr9 : ruleE ⟨n, ps, ss, long, bs, st, miss, good, fresh⟩ 8 = r := by
                                  show rule9 n st = r
                                  rw [rule9_at HS.out (fun j s hj hs => HF.out j s hj hs) (by rw [HGE.out, ER.out]; simpa using hr), HGE.out, ER.out]
                                exact ⟨ret_int (Eq.symm ((newE_at (k := 8) (by omega) F8.out (by rw [hr9]; simpa using hr)).trans hr9)), Below.then_ HB2.out (Below.allocW HN.out _)⟩
                        · obtain rfl : k = st.length := by omega
                          have F9 := Lib.hid (refNext F8.out (show ruleE ⟨n, ps, ss, long, bs, st, miss, good, fresh⟩ 8 = 0 from rule9_all fun j s hj => HF.out j s (by have := (List.getElem?_eq_some_iff.1 hj).1; omega) hj))
                          clear HF
                          go_wp2_with fail
                          refine gen_wp (fun V => Hid (RdI V (some ⟨wr.heap.size, 0, none⟩) [miss, good, fresh]) ∧ Hid (Below wr.heap.size wr V)) ⟨Lib.hid (blk_rdI' (Blk.new_ wr 3 _ rfl)), Lib.hid (ba _ _)⟩ ?_
                          rintro V ⟨HV, HBV⟩
                          have hvc : ∀ j x, [miss, good, fresh][j]? = some x → V.cell? ⟨wr.heap.size, j, none⟩ = some (.int .i64 x) := by
                            intro j x hj
                            obtain ⟨b, off, e, hc⟩ := HV.out (by simp)
                            cases e
                            have hl : j < [miss, good, fresh].length := (List.getElem?_eq_some_iff.1 hj).1
                            have := hc j hl
                            rw [hj, Nat.zero_add] at this
                            exact this
                          have HVC := Lib.hid hvc
                          clear hvc
                          go_loop [3, 8] (fun _ i => ∃ k : Nat, k ≤ 3 ∧ i = .int .i64 k ∧ Hid (∀ j, j < k → withinE ([miss, good, fresh][j]?.getD 0) 1 100 = 0)) (fun _ i => 3 - (intOf i).toNat)
                          case atStart => exact ⟨0, Nat.zero_le _, rfl, Lib.hid fun j hj => by omega⟩
                          case round =>
                            obtain ⟨k, hk, rfl, HF⟩ := hrel
                            by_cases hlt : k < 3
                            · obtain ⟨x, hx⟩ : ∃ x, [miss, good, fresh][k]? = some x := ⟨_, List.getElem?_eq_getElem (by simpa using hlt)⟩
                              have hcx := HVC.out k x hx
                              have HX := Lib.hid hx
                              have hlt' : (k : Int) < 3 := by omega
                              clear hx
                              by_cases zk : withinE x 1 100 = 0
                              · have ZK := Lib.hid zk
                                clear zk
                                go_wp2_with (go_at_call 48; refine (refWithin_any x 1 100 _).mono ?_; rw [ZK.out]; rintro e w' ⟨rfl, rfl⟩)
                                go_round
                                case rel => exact ⟨k + 1, by omega, by go_num, Lib.hid fun j hj => by
                                  rcases Nat.lt_succ_iff_lt_or_eq.1 hj with h | rfl
                                  · exact HF.out j h
                                  · rw [HX.out]; exact ZK.out⟩
                                case measure => simp [intOf]; omega
                              · obtain ⟨r, er, hr⟩ := nz_of zk
                                have ER := Lib.hid er
                                clear er zk
                                go_wp2_with (go_at_call 48; refine (refWithin_any x 1 100 _).mono ?_; rw [ER.out]; rintro e w' ⟨rfl, rfl⟩)
                                go_ret
                                have hr10 : ruleE ⟨n, ps, ss, long, bs, st, miss, good, fresh⟩ 9 = r := by
                                  show eachE [miss, good, fresh] 1 100 = r
                                  rw [eachE_at (k := k) (by simpa using hlt) HF.out (by rw [HX.out]; show withinE x 1 100 ≠ 0; rw [ER.out]; simpa using hr), HX.out]
                                  exact ER.out
                                exact ⟨ret_int (Eq.symm ((newE_at (k := 9) (by omega) F9.out (by rw [hr10]; simpa using hr)).trans hr10)), Below.then_ HB2.out (Below.then_ HN.out HBV.out)⟩
                            · go_wp2
                              go_ret
                              have hr10 : ruleE ⟨n, ps, ss, long, bs, st, miss, good, fresh⟩ 9 = 0 := by
                                show eachE [miss, good, fresh] 1 100 = 0
                                exact eachE_all fun j hj => HF.out j (by simp at hj; omega)
                              exact ⟨ret_int (newE_ok fun j hj => refNext F9.out hr10 j hj).symm, Below.then_ HB2.out (Below.then_ HN.out HBV.out)⟩
end Go.Proofs.YtmpkpikamogpdaaDoor.K
