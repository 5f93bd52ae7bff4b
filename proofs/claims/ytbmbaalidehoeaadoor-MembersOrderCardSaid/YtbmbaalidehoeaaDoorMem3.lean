/- members.Heard, Round. -/
import Derived.Test.YtbmbaalidehoeaaDoorMem2
import Derived.Deep.RegionHeld3
import Derived.Deep.RegionWith
namespace Go.Proofs.YtbmbaalidehoeaaDoor.K
open Go.RowKit

set_option maxRecDepth 100000 in
set_option maxHeartbeats 4000000 in
theorem heard_any (p : Nat) (c : Cfg) (cs : Array Value) (h : VwOk cs) (pair : Int) (w : World) (hn : NetAt w p c) :
    Calls Tryd.prog 10 #[.pointer (some ⟨p, 0, none⟩), .agg cs, .int .i64 pair] w fun e w' => e = .returned (.agg (heardV c.pairs.length cs pair)) ∧ Below w.heap.size w w' := by
  have HFI := Lib.hid fun (W : World) (hb : Below w.heap.size w W) => first_net p c pair W (hn.below hb)
  have HFN := Lib.hid (firstE_neg hn.1 pair)
  have HP := Lib.hid (bounds_of hn.1).p1
  have HC := Lib.hid h
  obtain ⟨f, ef⟩ : ∃ f, firstE c pair = f := ⟨_, rfl⟩
  rw [ef] at HFI HFN
  clear ef h hn
  have HZ := Lib.hid zeroV_ok
  by_cases hf : f < 0
  · have HV := Lib.hid (show heardV c.pairs.length cs pair = cs by rw [heardV, if_neg (HFN.out.1 hf)])
    go_enter Tryd.func10, Tryd.ntmps10
    go_upto_region 1 with fail
    refine gen_wp (fun U => Hid (Blk U w.heap.size 32 cs) ∧ Hid (Blk U (w.heap.size + 1) 32 zeroV) ∧ Hid (Below w.heap.size w U)) ⟨Lib.hid ((Blk.new_ w _ _ rfl).alloc _), Lib.hid (Blk.new_ _ _ _ (by simp)), Lib.hid (Below.allocW (ba _ _) _)⟩ ?_
    rintro U ⟨K, KZ, HB⟩
    go_wp2_with (first
      | (go_at_call 22; refine (HFI.out _ HB.out).mono ?_; rintro e w' ⟨rfl, rfl⟩)
      | (refine wpList_load_at rfl 32 (.tmp 4) rfl w.heap.size 0 rfl cs _ K.out.range Tryd.underlying32 rfl HC.out.inf ?_)
      | (refine wpList_store_at rfl 32 (.tmp 6) (.tmp 14) rfl (w.heap.size + 1) 32 zeroV cs KZ.out rfl rfl HC.out.inf (by rw [HC.out.size]; rfl) HC.out.all ?_))
    rw [HV.out]
    refine bodyPost_ret (results_row Tryd.results10 _ (w.heap.size + 1) 32 cs rfl (KZ.out.setRow cs) _ Tryd.underlying32 rfl HC.out.inf) rfl ⟨rfl, below_setRowW HB.out (by omega) _⟩
  · have hp : 0 ≤ pair ∧ pair < c.pairs.length := by
      by_cases g : 0 ≤ pair ∧ pair < c.pairs.length
      · exact g
      · exact absurd (HFN.out.2 g) hf
    obtain ⟨k, rfl⟩ : ∃ k : Nat, pair = k := ⟨pair.toNat, by omega⟩
    have hk : k < 8 := by have := HP.out; omega
    have k0 : (0 : Int) ≤ (k : Int) := by omega
    have k1 : (k : Int) < 8 := by omega
    have HV := Lib.hid (show heardV c.pairs.length cs k = cs.setIfInBounds (32 + k) (.bool true) by rw [heardV, if_pos hp]; rfl)
    have HV2 := Lib.hid (HC.out.setB (i := 32 + k) (.inr ⟨by omega, by omega⟩) true)
    obtain ⟨D, eD⟩ : ∃ D, cs.setIfInBounds (32 + k) (.bool true) = D := ⟨_, rfl⟩
    rw [eD] at HV HV2
    have ED := Lib.hid eD
    clear eD hp
    go_enter Tryd.func10, Tryd.ntmps10
    go_upto_region 1 with fail
    refine gen_wp (fun U => Hid (Blk U w.heap.size 32 cs) ∧ Hid (Blk U (w.heap.size + 1) 32 zeroV) ∧ Hid (Below w.heap.size w U)) ⟨Lib.hid ((Blk.new_ w _ _ rfl).alloc _), Lib.hid (Blk.new_ _ _ _ (by simp)), Lib.hid (Below.allocW (ba _ _) _)⟩ ?_
    rintro U ⟨K, KZ, HB⟩
    obtain ⟨-, -, -, -, c5⟩ := vcells K.out HC.out hk
    have f5 := K.out.frozen (32 + k)
    go_upto_region 3 with (first
      | (go_at_call 22; refine (HFI.out _ HB.out).mono ?_; rintro e w' ⟨rfl, rfl⟩))
    refine gen_wp (fun V => Hid (Blk V w.heap.size 32 D) ∧ Hid (Blk V (w.heap.size + 1) 32 zeroV) ∧ Hid (Below w.heap.size w V)) ⟨Lib.hid (by rw [← ED.out]; exact K.out.set_ (32 + k) _), Lib.hid (KZ.out.far (by simp) _), Lib.hid (HB.out.setCell (Nat.le_refl _) _)⟩ ?_
    rintro V ⟨K2, KZ2, HB2⟩
    go_wp2_with (first
      | (refine wpList_load_at rfl 32 (.tmp 4) rfl w.heap.size 0 rfl D _ K2.out.range Tryd.underlying32 rfl HV2.out.inf ?_)
      | (refine wpList_store_at rfl 32 (.tmp 6) (.tmp 14) rfl (w.heap.size + 1) 32 zeroV D KZ2.out rfl rfl HV2.out.inf (by rw [HV2.out.size]; rfl) HV2.out.all ?_))
    rw [HV.out]
    refine bodyPost_ret (results_row Tryd.results10 _ (w.heap.size + 1) 32 D rfl (KZ2.out.setRow D) _ Tryd.underlying32 rfl HV2.out.inf) rfl ⟨rfl, below_setRowW HB2.out (by omega) _⟩

set_option maxRecDepth 100000 in
set_option maxHeartbeats 8000000 in
theorem round_mem (p : Nat) (c : Cfg) (cs : Array Value) (h : VwOk cs) (w : World) (hs : Signs w) (hn : NetAt w p c) :
    Calls Tryd.prog 11 #[.pointer (some ⟨p, 0, none⟩), .agg cs] w fun e w' => e = .returned (.agg (roundV c.pairs.length c.miss c.good cs)) ∧ Below w.heap.size w w' := by
  have HGI := Lib.hid fun (W : World) (hb : Below w.heap.size w W) => given_any p c W (hs.below hb) (hn.below hb)
  have HP := Lib.hid (bounds_of hn.1).p1
  have HC := Lib.hid h
  have HZ := Lib.hid zeroV_ok
  obtain ⟨n, ps, ss, long, bs, st, miss, good, fresh⟩ := c
  dsimp only at HGI HP ⊢
  clear h hn hs
  go_enter Tryd.func11, Tryd.ntmps11
  go_upto_region 1 with fail
  refine gen_wp (fun U => Hid (Blk U w.heap.size 32 cs) ∧ Hid (Blk U (w.heap.size + 1) 32 zeroV) ∧ Hid (Below w.heap.size w U)) ⟨Lib.hid ((Blk.new_ w _ _ rfl).alloc _), Lib.hid (Blk.new_ _ _ _ (by simp)), Lib.hid (Below.allocW (ba _ _) _)⟩ ?_
  rintro U ⟨K, KZ, HB⟩
  go_upto_region 2 with (go_at_call 26; refine (HGI.out _ HB.out).mono ?_; rintro e wg ⟨A1, A2, A3, A4, rfl, h1, h2, h3, h4, hbg⟩; have HBG := Lib.hid hbg; clear h1 h2 h3 h4 hbg)
  refine gen_wp (fun V => Hid (Blk V w.heap.size 32 cs) ∧ Hid (Blk V (w.heap.size + 1) 32 zeroV) ∧ Hid (Blk V wg.heap.size 25 #[.int .i64 n, .slice A1 ps.length ps.length, .slice A2 ss.length ss.length, .int .i64 long, .slice A3 bs.length bs.length, .slice A4 st.length st.length, .int .i64 miss, .int .i64 good, .int .i64 fresh]) ∧ Hid (Below w.heap.size w V))
    ⟨Lib.hid ((K.out.below HBG.out).alloc _), Lib.hid ((KZ.out.below HBG.out).alloc _), Lib.hid (Blk.new_ _ _ _ rfl), Lib.hid (Below.allocW (HB.out.trans (HBG.out.mono HB.out.size)) _)⟩ ?_
  have hsz := (KZ.out.below HBG.out).lt
  rintro V ⟨K, KZ, KC, HB⟩
  have HSZ := Lib.hid hsz
  clear hsz
  have q1 := KC.out.cell 1
  simp at q1
  obtain ⟨G, eG⟩ : ∃ G, wg.heap.size = G := ⟨_, rfl⟩
  rw [eG] at KC HSZ q1 ⊢
  clear eG HBG HGI
  go_wp2_with fail
  go_loopw [6, 12] (fun _ i wr => ∃ k : Nat, k ≤ ps.length ∧ i = .int .i64 k ∧ Hid (Blk wr w.heap.size 32 (stepsV (roundStep miss good) k cs)) ∧ Hid (Blk wr (w.heap.size + 1) 32 zeroV) ∧ Hid (Blk wr G 25 #[.int .i64 n, .slice A1 ps.length ps.length, .slice A2 ss.length ss.length, .int .i64 long, .slice A3 bs.length bs.length, .slice A4 st.length st.length, .int .i64 miss, .int .i64 good, .int .i64 fresh]) ∧ Hid (Below w.heap.size w wr)) (fun _ i _ => ps.length - (intOf i).toNat)
  case atStart => exact ⟨0, by omega, rfl, K, KZ, KC, HB⟩
  case round =>
    clear K KZ KC HB q1
    obtain ⟨k, hk, rfl, K, KZ, KC, HB⟩ := hrel
    obtain ⟨C, eC⟩ : ∃ C, stepsV (roundStep miss good) k cs = C := ⟨_, rfl⟩
    rw [eC] at K
    have HCC := Lib.hid (show VwOk C by rw [← eC]; exact stepsV_ok (n := 8) (fun _ _ hp h => roundStep_ok hp h) HC.out k (by have := HP.out; omega))
    have EC := Lib.hid eC
    clear eC
    by_cases hlt : k < ps.length
    · have hk8 : k < 8 := by have := HP.out; omega
      have k0 : (0 : Int) ≤ (k : Int) := by omega
      have k1 : (k : Int) < 8 := by omega
      obtain ⟨c1, c2, c3, c4, c5⟩ := vcells K.out HCC.out hk8
      obtain ⟨b, eb⟩ : ∃ b, bl C (32 + k) = b := ⟨_, rfl⟩
      have EB := Lib.hid eb
      rw [eb] at c5
      clear eb
      have m1 := (HCC.out.u8 (8 + k) (by omega) (by omega)).2
      have m2 := (HCC.out.u8 (16 + k) (by omega) (by omega)).2
      have m3 := (HCC.out.u16 (24 + k) (by omega) (by omega)).2
      obtain ⟨x1, e1⟩ : ∃ b, nm C (8 + k) = b := ⟨_, rfl⟩
      obtain ⟨x2, e2⟩ : ∃ b, nm C (16 + k) = b := ⟨_, rfl⟩
      obtain ⟨x3, e3⟩ : ∃ b, nm C (24 + k) = b := ⟨_, rfl⟩
      rw [e1] at c2 m1
      rw [e2] at c3 m2
      rw [e3] at c4 m3
      have E1 := Lib.hid e1
      have E2 := Lib.hid e2
      have E3 := Lib.hid e3
      clear e1 e2 e3
      have f1 := K.out.frozen (8 + k)
      have f2 := K.out.frozen (16 + k)
      have f3 := K.out.frozen (24 + k)
      have UP1 := Lib.hid fun W => up_any x1 m1 W
      have UP2 := Lib.hid fun W => up_any x2 m2 W
      have RW := Lib.hid fun W => reward_any x3 m3 W
      have PN := Lib.hid fun W => penalty_any x3 m3 W
      have EM : missR C k = if b = true then 0 else upI x1 := by unfold missR; rw [EB.out, E1.out]
      have EG : goodR C k = if b = true then upI x2 else 0 := by unfold goodR; rw [EB.out, E2.out]
      have ES : scoreR C k = if b = true then rewardI x3 else penaltyI x3 := by unfold scoreR; rw [EB.out, E3.out]
      have MB : 0 ≤ missR C k ∧ missR C k < 256 := by rw [EM]; unfold upI; split <;> omega
      have NB : 0 ≤ goodR C k ∧ goodR C k < 256 := by rw [EG]; unfold upI; split <;> omega
      have SB : 0 ≤ scoreR C k ∧ scoreR C k < 65536 := by rw [ES]; unfold rewardI penaltyI; split <;> omega
      obtain ⟨M, eM⟩ : ∃ M, missR C k = M := ⟨_, rfl⟩
      obtain ⟨N, eN⟩ : ∃ N, goodR C k = N := ⟨_, rfl⟩
      obtain ⟨S, eS⟩ : ∃ S, scoreR C k = S := ⟨_, rfl⟩
      have HMM := Lib.hid eM
      have HNN := Lib.hid eN
      have HSS := Lib.hid eS
      rw [eM] at EM MB
      rw [eN] at EG NB
      rw [eS] at ES SB
      have HEM := Lib.hid EM
      have HEG := Lib.hid EG
      have HES := Lib.hid ES
      clear eM eN eS EM EG ES
      go_upto_if 18 with (fail)
      go_cut [6] (fun s6 wx => s6 = .int .i64 k ∧ Hid (Blk wx w.heap.size 32 (((C.setIfInBounds (8 + k) (.int .u8 M)).setIfInBounds (16 + k) (.int .u8 N)).setIfInBounds (24 + k) (.int .u16 S))) ∧ Hid (Blk wx (w.heap.size + 1) 32 zeroV) ∧ Hid (Blk wx G 25 #[.int .i64 n, .slice A1 ps.length ps.length, .slice A2 ss.length ss.length, .int .i64 long, .slice A3 bs.length bs.length, .slice A4 st.length st.length, .int .i64 miss, .int .i64 good, .int .i64 fresh]) ∧ Hid (Below w.heap.size w wx))
      case first =>
        cases b
        · obtain rfl := HEM.out
          obtain rfl := HEG.out
          obtain rfl := HES.out
          try simp only [Bool.false_eq_true, if_false]
          go_wp2_with fail
          go_region_with ((first | (go_at_call 27; refine (UP1.out _).mono ?_; rintro e w' ⟨rfl, rfl⟩) | (go_at_call 29; refine (PN.out _).mono ?_; rintro e w' ⟨rfl, rfl⟩)))
          all_goals (go_wp2_with fail; go_meet; exact ⟨rfl, Lib.hid ((((K.out.drewN 1).set_ (8 + k) _).set_ (16 + k) _).set_ (24 + k) _), Lib.hid ((((KZ.out.drewN 1).far (by simp) _).far (by simp) _).far (by simp) _), Lib.hid ((((KC.out.drewN 1).far (by have := HSZ.out; simp; omega) _).far (by have := HSZ.out; simp; omega) _).far (by have := HSZ.out; simp; omega) _), Lib.hid ((((below_drewN HB.out 1).setCell (Nat.le_refl _) _).setCell (Nat.le_refl _) _).setCell (Nat.le_refl _) _)⟩)
        · obtain rfl := HEM.out
          obtain rfl := HEG.out
          obtain rfl := HES.out
          try simp only [if_true]
          go_wp2_with fail
          go_region_with ((first | (go_at_call 27; refine (UP2.out _).mono ?_; rintro e w' ⟨rfl, rfl⟩) | (go_at_call 28; refine (RW.out _).mono ?_; rintro e w' ⟨rfl, rfl⟩)))
          all_goals (go_wp2_with fail; go_meet; exact ⟨rfl, Lib.hid ((((K.out.drewN 1).set_ (8 + k) _).set_ (16 + k) _).set_ (24 + k) _), Lib.hid ((((KZ.out.drewN 1).far (by simp) _).far (by simp) _).far (by simp) _), Lib.hid ((((KC.out.drewN 1).far (by have := HSZ.out; simp; omega) _).far (by have := HSZ.out; simp; omega) _).far (by have := HSZ.out; simp; omega) _), Lib.hid ((((below_drewN HB.out 1).setCell (Nat.le_refl _) _).setCell (Nat.le_refl _) _).setCell (Nat.le_refl _) _)⟩)
      case rest =>
        obtain ⟨rfl, K2, KZ2, KC2, HB2⟩ := hcut
        have HST := Lib.hid (show ∀ v, inR miss good C k = v → roundStep miss good k C = ((((C.setIfInBounds (8 + k) (.int .u8 M)).setIfInBounds (16 + k) (.int .u8 N)).setIfInBounds (24 + k) (.int .u16 S)).setIfInBounds k (.bool v)).setIfInBounds (32 + k) (.bool false) by
          rintro v rfl; rw [roundStep, HMM.out, HNN.out, HSS.out])
        have HD := Lib.hid (((HCC.out.set8 (i := 8 + k) (by omega) (by omega) MB).set8 (i := 16 + k) (by omega) (by omega) NB).set16 (i := 24 + k) (by omega) (by omega) SB)
        have DK : (((C.setIfInBounds (8 + k) (.int .u8 M)).setIfInBounds (16 + k) (.int .u8 N)).setIfInBounds (24 + k) (.int .u16 S))[k]? = some (.bool (bl C k)) ∧ (((C.setIfInBounds (8 + k) (.int .u8 M)).setIfInBounds (16 + k) (.int .u8 N)).setIfInBounds (24 + k) (.int .u16 S))[8 + k]? = some (.int .u8 M) ∧ (((C.setIfInBounds (8 + k) (.int .u8 M)).setIfInBounds (16 + k) (.int .u8 N)).setIfInBounds (24 + k) (.int .u16 S))[16 + k]? = some (.int .u8 N) := by
          have hsz := HCC.out.size
          have hb := HCC.out.b k (.inl hk8)
          refine ⟨?_, ?_, ?_⟩
          · rw [Array.getElem?_setIfInBounds, if_neg (by omega), Array.getElem?_setIfInBounds, if_neg (by omega), Array.getElem?_setIfInBounds, if_neg (by omega)]; exact hb
          · rw [Array.getElem?_setIfInBounds, if_neg (by omega), Array.getElem?_setIfInBounds, if_neg (by omega), Array.getElem?_setIfInBounds, if_pos rfl, if_pos (by omega)]
          · rw [Array.getElem?_setIfInBounds, if_neg (by omega), Array.getElem?_setIfInBounds, if_pos rfl, if_pos (by simp; omega)]
        obtain ⟨D, eD⟩ : ∃ D, (((C.setIfInBounds (8 + k) (.int .u8 M)).setIfInBounds (16 + k) (.int .u8 N)).setIfInBounds (24 + k) (.int .u16 S)) = D := ⟨_, rfl⟩
        rw [eD] at HST HD DK K2
        clear eD c1 c2 c3 c4 c5 f1 f2 f3
        obtain ⟨a, ea⟩ : ∃ a, bl C k = a := ⟨_, rfl⟩
        rw [ea] at DK
        obtain ⟨d1, d2, d3⟩ := DK
        have HIN := Lib.hid (show inR miss good C k = if a = true then decide (M < miss) else decide (good ≤ N) by rw [inR, ea, HMM.out, HNN.out])
        have HDK := Lib.hid d1
        have c1 := (K2.out.cell k).trans d1
        have c2 := (K2.out.cell (8 + k)).trans d2
        have c3 := (K2.out.cell (16 + k)).trans d3
        have c5 := (K2.out.cell (32 + k)).trans (HD.out.b (32 + k) (.inr ⟨by omega, by omega⟩))
        have f1 := K2.out.frozen k
        have f5 := K2.out.frozen (32 + k)
        have g6 := KC2.out.cell 6
        have g7 := KC2.out.cell 7
        simp at g6 g7
        clear d1 d2 d3 ea
        go_wp2_with fail
        cases a
        · by_cases hg : good ≤ N
          · go_quiet (fail)
            rename_i nq
            go_wp2_with fail
            go_quiet (fail)
            rename_i nr
            go_wp2_with fail
            go_roundw
            case rel =>
              refine ⟨k + 1, by omega, by go_num, Lib.hid ?_, Lib.hid (((KZ2.out.drewN _).far (by simp) _).far (by simp) _), Lib.hid (((KC2.out.drewN _).far (by have := HSZ.out; simp; omega) _).far (by have := HSZ.out; simp; omega) _), Lib.hid (((below_drewN HB2.out _).setCell (Nat.le_refl _) _).setCell (Nat.le_refl _) _)⟩
              show Blk _ _ _ (roundStep miss good k (stepsV (roundStep miss good) k cs))
              have e := HST.out true (by rw [HIN.out]; simp; omega)
              rw [EC.out, e]
              exact ((K2.out.drewN _).set_ k _).set_ (32 + k) _
            case measure => simp [intOf]; omega
          · go_quiet (fail)
            rename_i nq
            go_wp2_with fail
            go_quiet (fail)
            rename_i nr
            go_wp2_with fail
            go_roundw
            case rel =>
              refine ⟨k + 1, by omega, by go_num, Lib.hid ?_, Lib.hid ((KZ2.out.drewN _).far (by simp) _), Lib.hid ((KC2.out.drewN _).far (by have := HSZ.out; simp; omega) _), Lib.hid ((below_drewN HB2.out _).setCell (Nat.le_refl _) _)⟩
              show Blk _ _ _ (roundStep miss good k (stepsV (roundStep miss good) k cs))
              have e := HST.out false (by rw [HIN.out]; simp; omega); rw [set_same HDK.out] at e
              rw [EC.out, e]
              exact (K2.out.drewN _).set_ (32 + k) _
            case measure => simp [intOf]; omega
        · by_cases hg : miss ≤ M
          · go_quiet (fail)
            rename_i nq
            go_wp2_with fail
            go_roundw
            case rel =>
              refine ⟨k + 1, by omega, by go_num, Lib.hid ?_, Lib.hid (((KZ2.out.drewN _).far (by simp) _).far (by simp) _), Lib.hid (((KC2.out.drewN _).far (by have := HSZ.out; simp; omega) _).far (by have := HSZ.out; simp; omega) _), Lib.hid (((below_drewN HB2.out _).setCell (Nat.le_refl _) _).setCell (Nat.le_refl _) _)⟩
              show Blk _ _ _ (roundStep miss good k (stepsV (roundStep miss good) k cs))
              have e := HST.out false (by rw [HIN.out]; simp; omega)
              rw [EC.out, e]
              exact ((K2.out.drewN _).set_ k _).set_ (32 + k) _
            case measure => simp [intOf]; omega
          · go_quiet (fail)
            rename_i nq
            go_wp2_with fail
            go_quiet (fail)
            rename_i nr
            go_wp2_with fail
            go_roundw
            case rel =>
              refine ⟨k + 1, by omega, by go_num, Lib.hid ?_, Lib.hid ((KZ2.out.drewN _).far (by simp) _), Lib.hid ((KC2.out.drewN _).far (by have := HSZ.out; simp; omega) _), Lib.hid ((below_drewN HB2.out _).setCell (Nat.le_refl _) _)⟩
              show Blk _ _ _ (roundStep miss good k (stepsV (roundStep miss good) k cs))
              have e := HST.out true (by rw [HIN.out]; simp; omega); rw [set_same HDK.out] at e
              rw [EC.out, e]
              exact (K2.out.drewN _).set_ (32 + k) _
            case measure => simp [intOf]; omega
    · obtain rfl : k = ps.length := by omega
      go_wp2_with (first
        | (refine wpList_load_at rfl 32 (.tmp 3) rfl w.heap.size 0 rfl C _ K.out.range Tryd.underlying32 rfl HCC.out.inf ?_)
        | (refine wpList_store_at rfl 32 (.tmp 4) (.tmp 98) rfl (w.heap.size + 1) 32 zeroV C KZ.out rfl rfl HCC.out.inf (by rw [HCC.out.size]; rfl) HCC.out.all ?_))
      refine bodyPost_ret (results_row Tryd.results11 _ (w.heap.size + 1) 32 C rfl (KZ.out.setRow C) _ Tryd.underlying32 rfl HCC.out.inf) rfl ⟨by rw [← EC.out]; rfl, below_setRowW HB.out (by omega) _⟩
end Go.Proofs.YtbmbaalidehoeaaDoor.K
