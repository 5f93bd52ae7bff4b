/- members.May, Heard. -/
import Derived.Test.YtbmbaalidehoeaaDoorMem
namespace Go.Proofs.YtbmbaalidehoeaaDoor.K
open Go.RowKit

theorem mayB_no {np : Nat} {cs : Array Value} {k : Nat} (hk : k < 8) (h : pairOk np cs k = false) : mayB np cs = false := by
  have : (List.range 8).all (pairOk np cs) = false := by
    rw [List.all_eq_false]
    exact ⟨k, by simpa using hk, by simp [h]⟩
  simp [mayB, this]

set_option maxRecDepth 100000 in
set_option maxHeartbeats 8000000 in
theorem may_any (p : Nat) (c : Cfg) (cs : Array Value) (h : VwOk cs) (w : World) (hn : NetAt w p c) :
    Calls Tryd.prog 8 #[.pointer (some ⟨p, 0, none⟩), .agg cs] w fun e w' => e = .returned (.bool (mayB c.pairs.length cs)) ∧ Below w.heap.size w w' := by
  have HE := Lib.hid hn.1
  have HRD := Lib.hid fun (W : World) (hb : Below w.heap.size w W) => round_any' p c W (hn.below hb)
  have HFI := Lib.hid fun (W : World) (i : Int) (hb : Below w.heap.size w W) => first_net p c i W (hn.below hb)
  have HR0 := Lib.hid (show ¬ roundT c = 0 by have := (rb_of hn.1).r0; omega)
  have HFN := Lib.hid (fun i => firstE_neg hn.1 i)
  have HC := Lib.hid h
  obtain ⟨⟨k40, a0, a1⟩, ⟨k41, b0, b1⟩⟩ : _ ∧ _ := ⟨h.cmd, h.mode⟩
  obtain ⟨R, eR⟩ : ∃ R, roundT c = R := ⟨_, rfl⟩
  rw [eR] at HR0 HRD
  have r0 : (R == 0) = false := by simpa using HR0.out
  obtain ⟨M, eM⟩ : ∃ M, mayB c.pairs.length cs = M := ⟨_, rfl⟩
  have HM := Lib.hid eM
  rw [eM]
  obtain ⟨C, eC⟩ : ∃ C, nm cs 40 = C := ⟨_, rfl⟩
  obtain ⟨D, eD⟩ : ∃ D, nm cs 41 = D := ⟨_, rfl⟩
  have EC := Lib.hid eC
  have ED := Lib.hid eD
  rw [eC] at k40 a0 a1
  rw [eD] at k41 b0 b1
  have K40 := Lib.hid k40
  have K41 := Lib.hid k41
  clear eR eM eC eD k40 k41 h hn
  go_enter Tryd.func8, Tryd.ntmps8
  go_upto_region 1 with fail
  refine gen_wp (fun U => Hid (Blk U w.heap.size 32 cs) ∧ Hid (Below w.heap.size w U)) ⟨Lib.hid (Blk.new_ w _ _ rfl), Lib.hid (ba _ _)⟩ ?_
  rintro U ⟨K, HB⟩
  have c40 := (K.out.cell 40).trans K40.out
  have c41 := (K.out.cell 41).trans K41.out
  go_wp2_with fail
  go_at_call 21
  refine (HRD.out _ HB.out).mono ?_
  rintro e w1 ⟨rfl, q, rfl⟩
  have HB1 := Lib.hid (below_drewN HB.out q)
  have K1 := Lib.hid (K.out.drewN q)
  by_cases g1 : C < -1
  · go_wp2_with fail
    go_ret
    exact ⟨ret_bool (by rw [← HM.out, mayB, EC.out]; simp; omega), HB1.out⟩
  have HFC := Lib.hid (HFI.out (U.drewN q) C HB1.out)
  have HFX := Lib.hid (HFN.out C)
  obtain ⟨f, ef⟩ : ∃ f, firstE c C = f := ⟨_, rfl⟩
  rw [ef] at HFC HFX
  clear ef
  by_cases g2 : 0 ≤ C ∧ f < 0
  · obtain ⟨g2, g3⟩ := g2
    go_wp2_with (go_at_call 22; refine (HFC.out).mono ?_; rintro e w' ⟨rfl, rfl⟩)
    go_ret
    exact ⟨ret_bool (by rw [← HM.out, mayB, EC.out]; have := HFX.out.1 g3; simp; omega), HB1.out⟩
  by_cases g4 : 4 < D
  · by_cases g5 : 0 ≤ C
    · have g6 : ¬ f < 0 := fun h => g2 ⟨g5, h⟩
      go_wp2_with (go_at_call 22; refine (HFC.out).mono ?_; rintro e w' ⟨rfl, rfl⟩)
      go_ret
      exact ⟨ret_bool (by rw [← HM.out, mayB, ED.out]; simp; omega), HB1.out⟩
    · go_wp2_with fail
      go_ret
      exact ⟨ret_bool (by rw [← HM.out, mayB, ED.out]; simp; omega), HB1.out⟩
  have hC : -1 ≤ C ∧ C < c.pairs.length := by
    refine ⟨by omega, ?_⟩
    by_cases h0 : 0 ≤ C
    · have : ¬ f < 0 := fun h => g2 ⟨h0, h⟩
      by_cases h1 : C < c.pairs.length
      · exact h1
      · exact absurd (HFX.out.2 (by omega)) this
    · omega
  have HCD := Lib.hid hC
  clear hC
  by_cases g5 : 0 ≤ C
  · have g6 : ¬ f < 0 := fun h => g2 ⟨g5, h⟩
    go_wp2_with (go_at_call 22; refine (HFC.out).mono ?_; rintro e w' ⟨rfl, rfl⟩)
    go_loopw [5, 32] (fun _ i wr => ∃ k : Nat, k ≤ 8 ∧ i = .int .i64 k ∧ Hid (∀ j, j < k → pairOk c.pairs.length cs j = true) ∧ Hid (Blk wr w.heap.size 32 cs) ∧ Hid (Below w.heap.size w wr)) (fun _ i _ => 8 - (intOf i).toNat)
    case atStart => exact ⟨0, by omega, rfl, Lib.hid (fun j hj => by omega), K1, HB1⟩
    case round =>
      obtain ⟨k, hk, rfl, HALL, KB, HBW⟩ := hrel
      by_cases hlt : k < 8
      · have k0 : (0 : Int) ≤ (k : Int) := by omega
        have k1 : (k : Int) < 8 := by omega
        obtain ⟨c1, c2, c3, c4, c5⟩ := vcells KB.out HC.out hlt
        have HFK := Lib.hid (HFI.out wr k HBW.out)
        have HFP := Lib.hid (HFN.out (k : Int))
        obtain ⟨fk, efk⟩ : ∃ fk, firstE c (k : Int) = fk := ⟨_, rfl⟩
        rw [efk] at HFK HFP
        clear efk
        obtain ⟨x1, e3⟩ : ∃ b, nm cs (8 + k) = b := ⟨_, rfl⟩
        obtain ⟨x2, e4⟩ : ∃ b, nm cs (16 + k) = b := ⟨_, rfl⟩
        obtain ⟨x3, e5⟩ : ∃ b, nm cs (24 + k) = b := ⟨_, rfl⟩
        obtain ⟨e, ee⟩ : ∃ b, emptyB cs k = b := ⟨_, rfl⟩
        have HEM := Lib.hid (fun W => empty_any cs HC.out k hlt W)
        rw [ee] at HEM
        have HPO := Lib.hid (show pairOk c.pairs.length cs k = ((decide (k < c.pairs.length) || e) && (decide (x1 ≤ 100) && (decide (x2 ≤ 100) && decide (x3 ≤ 1000)))) by rw [pairOk, ee, e3, e4, e5])
        have m1 := (HC.out.u8 (8 + k) (by omega) (by omega)).2
        have m2 := (HC.out.u8 (16 + k) (by omega) (by omega)).2
        have m3 := (HC.out.u16 (24 + k) (by omega) (by omega)).2
        rw [e3] at c2 m1
        rw [e4] at c3 m2
        rw [e5] at c4 m3
        clear e3 e4 e5 ee c1 c5
        by_cases hf : fk < 0
        · have hnp : ¬ k < c.pairs.length := fun h => HFP.out.1 hf (by omega)
          cases e
          · go_wp2_with (first
              | (refine wpList_load_at rfl 32 (.tmp 3) rfl w.heap.size 0 rfl cs _ KB.out.range Tryd.underlying32 rfl HC.out.inf ?_)
              | (go_at_call 22; refine (HFK.out).mono ?_; rintro e w' ⟨rfl, rfl⟩)
              | (go_at_call 23; refine (HEM.out _).mono ?_; rintro e w' ⟨rfl, hbe⟩))
            go_ret
            exact ⟨ret_bool (by rw [← HM.out]; refine (mayB_no hlt ?_).symm; rw [HPO.out]; simp; omega), Below.then_ HBW.out hbe⟩
          · go_wp2_with (first
              | (refine wpList_load_at rfl 32 (.tmp 3) rfl w.heap.size 0 rfl cs _ KB.out.range Tryd.underlying32 rfl HC.out.inf ?_)
              | (go_at_call 22; refine (HFK.out).mono ?_; rintro e w' ⟨rfl, rfl⟩)
              | (go_at_call 23; refine (HEM.out _).mono ?_; rintro e w' ⟨rfl, hbe⟩; have c2' := Below.keeps hbe c2; have c3' := Below.keeps hbe c3; have c4' := Below.keeps hbe c4; have HBE := Lib.hid hbe; clear hbe))
            all_goals first
              | (go_ret; exact ⟨ret_bool (by rw [← HM.out]; refine (mayB_no hlt ?_).symm; rw [HPO.out]; simp; omega), Below.then_ HBW.out HBE.out⟩)
              | (go_roundw
                 case rel =>
                   refine ⟨k + 1, by omega, by go_num, Lib.hid (fun j hj => ?_), Lib.hid (KB.out.below HBE.out), Lib.hid (Below.then_ HBW.out HBE.out)⟩
                   by_cases hjk : j < k
                   · exact HALL.out j hjk
                   · obtain rfl : j = k := by omega
                     rw [HPO.out]; simp; omega
                 case measure => simp [intOf]; omega)
            
        · have hnp : k < c.pairs.length := by
            by_cases h : k < c.pairs.length
            · exact h
            · exact absurd (HFP.out.2 (by omega)) hf
          go_wp2_with (go_at_call 22; refine (HFK.out).mono ?_; rintro e w' ⟨rfl, rfl⟩)
          all_goals first
            | (go_ret; exact ⟨ret_bool (by rw [← HM.out]; refine (mayB_no hlt ?_).symm; rw [HPO.out]; simp; omega), HBW.out⟩)
            | (go_roundw
               case rel =>
                 refine ⟨k + 1, by omega, by go_num, Lib.hid (fun j hj => ?_), Lib.hid (KB.out), Lib.hid (HBW.out)⟩
                 by_cases hjk : j < k
                 · exact HALL.out j hjk
                 · obtain rfl : j = k := by omega
                   rw [HPO.out]; simp; omega
               case measure => simp [intOf]; omega)
      · obtain rfl : k = 8 := by omega
        go_wp2_with fail
        go_ret
        refine ⟨ret_bool ?_, HBW.out⟩
        have hall : (List.range 8).all (pairOk c.pairs.length cs) = true := List.all_eq_true.2 fun j hj => HALL.out j (by simpa using hj)
        rw [← HM.out, mayB, EC.out, ED.out, hall]
        have := HCD.out
        simp
        omega
  · go_wp2_with fail
    go_loopw [5, 32] (fun _ i wr => ∃ k : Nat, k ≤ 8 ∧ i = .int .i64 k ∧ Hid (∀ j, j < k → pairOk c.pairs.length cs j = true) ∧ Hid (Blk wr w.heap.size 32 cs) ∧ Hid (Below w.heap.size w wr)) (fun _ i _ => 8 - (intOf i).toNat)
    case atStart => exact ⟨0, by omega, rfl, Lib.hid (fun j hj => by omega), K1, HB1⟩
    case round =>
      obtain ⟨k, hk, rfl, HALL, KB, HBW⟩ := hrel
      by_cases hlt : k < 8
      · have k0 : (0 : Int) ≤ (k : Int) := by omega
        have k1 : (k : Int) < 8 := by omega
        obtain ⟨c1, c2, c3, c4, c5⟩ := vcells KB.out HC.out hlt
        have HFK := Lib.hid (HFI.out wr k HBW.out)
        have HFP := Lib.hid (HFN.out (k : Int))
        obtain ⟨fk, efk⟩ : ∃ fk, firstE c (k : Int) = fk := ⟨_, rfl⟩
        rw [efk] at HFK HFP
        clear efk
        obtain ⟨x1, e3⟩ : ∃ b, nm cs (8 + k) = b := ⟨_, rfl⟩
        obtain ⟨x2, e4⟩ : ∃ b, nm cs (16 + k) = b := ⟨_, rfl⟩
        obtain ⟨x3, e5⟩ : ∃ b, nm cs (24 + k) = b := ⟨_, rfl⟩
        obtain ⟨e, ee⟩ : ∃ b, emptyB cs k = b := ⟨_, rfl⟩
        have HEM := Lib.hid (fun W => empty_any cs HC.out k hlt W)
        rw [ee] at HEM
        have HPO := Lib.hid (show pairOk c.pairs.length cs k = ((decide (k < c.pairs.length) || e) && (decide (x1 ≤ 100) && (decide (x2 ≤ 100) && decide (x3 ≤ 1000)))) by rw [pairOk, ee, e3, e4, e5])
        have m1 := (HC.out.u8 (8 + k) (by omega) (by omega)).2
        have m2 := (HC.out.u8 (16 + k) (by omega) (by omega)).2
        have m3 := (HC.out.u16 (24 + k) (by omega) (by omega)).2
        rw [e3] at c2 m1
        rw [e4] at c3 m2
        rw [e5] at c4 m3
        clear e3 e4 e5 ee c1 c5
        by_cases hf : fk < 0
        · have hnp : ¬ k < c.pairs.length := fun h => HFP.out.1 hf (by omega)
          cases e
          · go_wp2_with (first
              | (refine wpList_load_at rfl 32 (.tmp 3) rfl w.heap.size 0 rfl cs _ KB.out.range Tryd.underlying32 rfl HC.out.inf ?_)
              | (go_at_call 22; refine (HFK.out).mono ?_; rintro e w' ⟨rfl, rfl⟩)
              | (go_at_call 23; refine (HEM.out _).mono ?_; rintro e w' ⟨rfl, hbe⟩))
            go_ret
            exact ⟨ret_bool (by rw [← HM.out]; refine (mayB_no hlt ?_).symm; rw [HPO.out]; simp; omega), Below.then_ HBW.out hbe⟩
          · go_wp2_with (first
              | (refine wpList_load_at rfl 32 (.tmp 3) rfl w.heap.size 0 rfl cs _ KB.out.range Tryd.underlying32 rfl HC.out.inf ?_)
              | (go_at_call 22; refine (HFK.out).mono ?_; rintro e w' ⟨rfl, rfl⟩)
              | (go_at_call 23; refine (HEM.out _).mono ?_; rintro e w' ⟨rfl, hbe⟩; have c2' := Below.keeps hbe c2; have c3' := Below.keeps hbe c3; have c4' := Below.keeps hbe c4; have HBE := Lib.hid hbe; clear hbe))
            all_goals first
              | (go_ret; exact ⟨ret_bool (by rw [← HM.out]; refine (mayB_no hlt ?_).symm; rw [HPO.out]; simp; omega), Below.then_ HBW.out HBE.out⟩)
              | (go_roundw
                 case rel =>
                   refine ⟨k + 1, by omega, by go_num, Lib.hid (fun j hj => ?_), Lib.hid (KB.out.below HBE.out), Lib.hid (Below.then_ HBW.out HBE.out)⟩
                   by_cases hjk : j < k
                   · exact HALL.out j hjk
                   · obtain rfl : j = k := by omega
                     rw [HPO.out]; simp; omega
                 case measure => simp [intOf]; omega)
            
        · have hnp : k < c.pairs.length := by
            by_cases h : k < c.pairs.length
            · exact h
            · exact absurd (HFP.out.2 (by omega)) hf
          go_wp2_with (go_at_call 22; refine (HFK.out).mono ?_; rintro e w' ⟨rfl, rfl⟩)
          all_goals first
            | (go_ret; exact ⟨ret_bool (by rw [← HM.out]; refine (mayB_no hlt ?_).symm; rw [HPO.out]; simp; omega), HBW.out⟩)
            | (go_roundw
               case rel =>
                 refine ⟨k + 1, by omega, by go_num, Lib.hid (fun j hj => ?_), Lib.hid (KB.out), Lib.hid (HBW.out)⟩
                 by_cases hjk : j < k
                 · exact HALL.out j hjk
                 · obtain rfl : j = k := by omega
                   rw [HPO.out]; simp; omega
               case measure => simp [intOf]; omega)
      · obtain rfl : k = 8 := by omega
        go_wp2_with fail
        go_ret
        refine ⟨ret_bool ?_, HBW.out⟩
        have hall : (List.range 8).all (pairOk c.pairs.length cs) = true := List.all_eq_true.2 fun j hj => HALL.out j (by simpa using hj)
        rw [← HM.out, mayB, EC.out, ED.out, hall]
        have := HCD.out
        simp
        omega
end Go.Proofs.YtbmbaalidehoeaaDoor.K
