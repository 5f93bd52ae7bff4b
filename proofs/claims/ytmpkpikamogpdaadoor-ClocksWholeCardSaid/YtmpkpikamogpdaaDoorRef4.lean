/- sennitref04: the document's answer on configs: Within, pairs, slots. -/
import Derived.Test.YtmpkpikamogpdaaDoorNew
namespace Go.Proofs.YtmpkpikamogpdaaDoor.K
open Go.RowKit

set_option maxHeartbeats 400000 in
theorem refWithin_any (x a b : Int) (w : World) :
    Calls Tryd.prog 48 #[.int .i64 x, .int .i64 a, .int .i64 b] w fun e w' => e = .returned (.int .i64 (withinE x a b)) ∧ w = w' := by
  by_cases h1 : x > b
  · go_enter Tryd.func48, Tryd.ntmps48
    go_wp2
    go_ret
    exact ⟨ret_int (by simp only [withinE]; rw [if_pos (by omega)]), rfl⟩
  · by_cases h2 : x < a
    · go_enter Tryd.func48, Tryd.ntmps48
      go_wp2
      go_ret
      exact ⟨ret_int (by simp only [withinE]; rw [if_neg (by omega), if_pos (by omega)]), rfl⟩
    · go_enter Tryd.func48, Tryd.ntmps48
      go_wp2
      go_ret
      exact ⟨ret_int (by simp only [withinE]; rw [if_neg (by omega), if_neg (by omega)]), rfl⟩

/-- What rule 3 asks. -/
def pairsB (n : Int) (ps : List Int) : Bool := !ps.any (notIn n) && sortedB ps && decide (halvesL n ps).Nodup
/-- Which nodes are used by the halves of the first pairs. -/
def usedL (hs : List Int) : List Value := (List.range 16).map fun (i : Nat) => .bool (decide ((i : Int) ∈ hs))
theorem usedL_length (hs : List Int) : (usedL hs).length = 16 := by simp [usedL]
theorem usedL_at {hs : List Int} {x : Nat} (h : x < 16) : (usedL hs)[x]? = some (.bool (decide ((x : Int) ∈ hs))) := by simp [usedL, h]
theorem usedL_set {hs : List Int} {x : Nat} : (usedL hs).set x (.bool true) = usedL (hs ++ [(x : Int)]) := by
  apply List.ext_getElem?
  intro i
  by_cases hi : i < 16
  · rw [usedL_at hi, List.getElem?_set]
    by_cases h : x = i
    · subst h
      rw [if_pos rfl, if_pos (by rw [usedL_length]; exact hi)]
      simp
    · rw [if_neg h, usedL_at hi]
      have : (i : Int) ≠ (x : Int) := by omega
      simp [this]
  · rw [List.getElem?_eq_none (by rw [List.length_set, usedL_length]; omega), List.getElem?_eq_none (by rw [usedL_length]; omega)]
theorem usedL_nil : usedL [] = List.replicate 16 (.bool false) := rfl

/-- As far as k pairs, all is well. -/
structure PairsTo (n : Int) (ps : List Int) (k : Nat) : Prop where
  inn : ∀ i, i < k → 0 ≤ ps[i]?.getD 0 ∧ ps[i]?.getD 0 < n
  up : ∀ i, 0 < i → i < k → ps[i - 1]?.getD 0 < ps[i]?.getD 0
  nodup : (halvesL n (ps.take k)).Nodup
theorem pairsB_all {n : Int} {ps : List Int} (h : PairsTo n ps ps.length) : pairsB n ps = true := by
  have h1 : ps.any (notIn n) = false := by
    rw [List.any_eq_false]
    intro x hx
    obtain ⟨i, hi, rfl⟩ := List.getElem_of_mem hx
    have := h.inn i hi
    rw [List.getElem?_eq_getElem hi] at this
    simp at this
    simp [notIn]
    omega
  have h2 : sortedB ps = true := sortedB_of fun j h0 hj => Int.le_of_lt (h.up j h0 hj)
  have h3 := h.nodup
  rw [List.take_length] at h3
  simp [pairsB, h1, h2, h3]
theorem pairsB_out {n : Int} {ps : List Int} {i : Nat} (hi : i < ps.length) (h : ps[i]?.getD 0 < 0 ∨ n ≤ ps[i]?.getD 0) : pairsB n ps = false := by
  have h1 : ps.any (notIn n) = true := by
    rw [List.any_eq_true]
    refine ⟨ps[i], List.getElem_mem hi, ?_⟩
    rw [List.getElem?_eq_getElem hi] at h
    simp at h
    simp [notIn]
    exact h
  simp [pairsB, h1]
theorem halves_take_sub {n : Int} {ps : List Int} {k : Nat} : (halvesL n (ps.take k)).Sublist (halvesL n ps) := by
  have : halvesL n ps = halvesL n (ps.take k) ++ halvesL n (ps.drop k) := by
    rw [halvesL, halvesL, halvesL, ← List.flatMap_append, List.take_append_drop]
  rw [this]
  exact List.sublist_append_left _ _
theorem pairsB_dup {n : Int} {ps : List Int} {k : Nat} (h : ¬ (halvesL n (ps.take k)).Nodup) : pairsB n ps = false := by
  have : ¬ (halvesL n ps).Nodup := fun hn => h (hn.sublist halves_take_sub)
  simp [pairsB, this]
theorem pairsB_down {n : Int} {ps : List Int} {i : Nat} (h0 : 0 < i) (hi : i < ps.length) (h : ps[i]?.getD 0 ≤ ps[i - 1]?.getD 0) : pairsB n ps = false := by
  by_cases he : ps[i]?.getD 0 = ps[i - 1]?.getD 0
  · refine pairsB_dup (k := i + 1) ?_
    rw [take_snoc' ps i hi, halvesL_snoc]
    obtain ⟨j, rfl⟩ : ∃ j, i = j + 1 := ⟨i - 1, by omega⟩
    rw [take_snoc' ps j (by omega), halvesL_snoc, he]
    simp only [Nat.add_sub_cancel]
    intro hn
    have := (List.nodup_append.1 hn).2.2 (ps[j]?.getD 0) (by simp) (ps[j]?.getD 0) (by simp)
    exact this rfl
  · have : sortedB ps = false := sortedB_not h0 hi (by omega)
    simp [pairsB, this]

theorem info_b : (Tryd.prog.info? 4).map (fun i => (i.zero, i.size, i.bytes)) = some (some (.bool false), 1, 1) := by kernel_rfl

set_option maxRecDepth 100000 in
set_option maxHeartbeats 8000000 in
theorem refPairs_any (n : Int) (A1 : Option Addr) (c1 : Nat) (ps : List Int) (A2 : Option Addr) (c2 : Nat) (ss : List Int) (long : Int) (A3 : Option Addr) (c3 : Nat) (bs : List Int) (A4 : Option Addr) (c4 : Nat) (st : List Stn) (miss good fresh : Int) (w : World) (hr : RdI w A1 ps) (hn : 4 ≤ n) (hn' : n ≤ 16) (hl : ps.length ≤ 8) :
    Calls Tryd.prog 49 #[(.agg #[.int .i64 n, .slice A1 ps.length c1, .slice A2 ss.length c2, .int .i64 long, .slice A3 bs.length c3, .slice A4 st.length c4, .int .i64 miss, .int .i64 good, .int .i64 fresh])] w fun e w' => e = .returned (.bool (pairsB n ps)) ∧ Below w.heap.size w w' := by
  obtain ⟨i0, hi, hz0, hz1, hz2⟩ := info_parts info_b
  have hmk := fun W => run_make_rowN (P := Tryd.prog) 138 4 i0 _ Tryd.underlying138 hi hz0 .i64 .i64 16 16 (Nat.le_refl _) (by rw [hz2]; omega) (by omega) W
  rw [hz1, Nat.mul_one, show (Value.bool false).cells = #[.bool false] from rfl, madeCells_one, ← usedL_nil] at hmk
  have hmk16 : ∀ W, (Instr.makeSlice 138 (.int .i64 16) (.int .i64 16)).run Tryd.prog W = .ok (.slice (some ⟨W.heap.size, 0, none⟩) 16 16) (W.alloc (.cells (usedL []).toArray 4)) := hmk
  clear hmk hi hz0 hz1 hz2
  go_enter Tryd.func49, Tryd.ntmps49
  go_wp2
  refine gen_wp (fun W => Hid (Blk W w.heap.size 44 #[.int .i64 n, .slice A1 ps.length c1, .slice A2 ss.length c2, .int .i64 long, .slice A3 bs.length c3, .slice A4 st.length c4, .int .i64 miss, .int .i64 good, .int .i64 fresh]) ∧ Hid (Blk W (w.heap.size + 1) 4 (usedL []).toArray) ∧ Hid (Below w.heap.size w W)) ⟨Lib.hid ((Blk.new_ w _ _ rfl).alloc _), Lib.hid (Blk.new_ (w.alloc _) _ _ (by simp)), Lib.hid (Below.allocW (Below.allocW (Below.refl _ _) _) _)⟩ ?_
  have hn0 : (n == 0) = false := by simp; omega
  obtain ⟨B, eB⟩ : ∃ B, w.heap.size = B := ⟨_, rfl⟩
  rw [eB]
  rintro W ⟨K0, K1, HB⟩
  have HR := Lib.hid hr
  clear hr hmk16
  go_loopw [4, 5, 6] (fun v _ _ wr => ∃ k : Nat, k ≤ ps.length ∧ v = .int .i64 k ∧ Hid (Blk wr B 44 #[.int .i64 n, .slice A1 ps.length c1, .slice A2 ss.length c2, .int .i64 long, .slice A3 bs.length c3, .slice A4 st.length c4, .int .i64 miss, .int .i64 good, .int .i64 fresh]) ∧ Hid (Blk wr (B + 1) 4 (usedL (halvesL n (ps.take k))).toArray) ∧ Hid (Below B w wr) ∧ Hid (PairsTo n ps k)) (fun v _ _ _ => ps.length - (intOf v).toNat)
  case atStart => exact ⟨0, by omega, rfl, K0, K1, HB, Lib.hid ⟨fun i hi => by omega, fun i _ hi => by omega, by simp [halvesL]⟩⟩
  case round =>
    obtain ⟨k, hk, rfl, KC, KU, HBR, HP⟩ := hrel
    have hc0 := KC.out.lt
    have hu0 := KU.out.lt
    obtain ⟨q0, q1, q2, q3, q4, q5, q6, q7, q8⟩ := box9 KC.out
    by_cases hlt : k < ps.length
    · obtain ⟨b, off, eA, hcs⟩ := (HR.out.below (by rw [eB]; exact HBR.out)).at_ hlt
      subst eA
      have hcx := hcs k hlt
      obtain ⟨x, hx⟩ : ∃ x, ps[k]?.getD 0 = x := ⟨_, rfl⟩
      rw [hx] at hcx
      have hkk : (k : Int) < (ps.length : Int) := by omega
      have HX := Lib.hid hx
      have HCS := Lib.hid hcs
      clear hcs hx
      by_cases hx0 : x < 0
      · go_wp2
        go_ret
        exact ⟨ret_bool (Eq.symm (pairsB_out hlt (by rw [HX.out]; omega))), by first | exact HBR.out | (rw [eB]; exact HBR.out)⟩
      · by_cases hxn : n ≤ x
        · go_wp2
          go_ret
          exact ⟨ret_bool (Eq.symm (pairsB_out hlt (by rw [HX.out]; omega))), by first | exact HBR.out | (rw [eB]; exact HBR.out)⟩
        · have hx0' : 0 ≤ x := by omega
          have hxn' : x < n := by omega
          cases k with
          | zero =>
            rw [Nat.add_zero] at hcx
            obtain ⟨X, rfl⟩ : ∃ X : Nat, x = X := ⟨x.toNat, by omega⟩
            have hY0 : 0 ≤ ((X : Int) + 1) % n := Int.emod_nonneg _ (by omega)
            have hY1 : ((X : Int) + 1) % n < n := Int.emod_lt_of_pos _ (by omega)
            obtain ⟨Y, hY⟩ : ∃ Y : Nat, ((X : Int) + 1) % n = Y := ⟨(((X : Int) + 1) % n).toNat, by omega⟩
            rw [hY] at hY0 hY1
            have hX16 : X < 16 := by omega
            have hY16 : Y < 16 := by omega
            have u1 := KU.out.cell X
            have u2 := KU.out.cell Y
            have f1 := KU.out.frozen X
            have f2 := KU.out.frozen Y
            rw [List.getElem?_toArray, usedL_at hX16] at u1
            rw [List.getElem?_toArray, usedL_at hY16] at u2
            obtain ⟨hs0, ehs⟩ : ∃ hs0, halvesL n (ps.take 0) = hs0 := ⟨_, rfl⟩
            rw [ehs] at u1 u2
            have HNX : Hid (halvesL n (ps.take (0 + 1)) = hs0 ++ [(X : Int), (Y : Int)]) := Lib.hid (by rw [take_snoc' ps 0 (by omega), HX.out, halvesL_snoc, nextN, hY, ehs])
            have HND := HP.out.nodup
            rw [ehs] at HND
            have EHS := Lib.hid ehs
            clear ehs
            by_cases hm1 : (X : Int) ∈ hs0
            · rw [decide_eq_true hm1] at u1
              go_wp2
              go_ret
              refine ⟨ret_bool (Eq.symm (pairsB_dup (k := 0 + 1) ?_)), by first | exact HBR.out | (rw [eB]; exact HBR.out)⟩
              rw [HNX.out]
              intro hnd
              exact (List.nodup_append.1 hnd).2.2 _ hm1 (X : Int) (by simp) rfl
            · rw [decide_eq_false hm1] at u1
              by_cases hm2 : (Y : Int) ∈ hs0
              · rw [decide_eq_true hm2] at u2
                go_wp2
                go_ret
                refine ⟨ret_bool (Eq.symm (pairsB_dup (k := 0 + 1) ?_)), by first | exact HBR.out | (rw [eB]; exact HBR.out)⟩
                rw [HNX.out]
                intro hnd
                exact (List.nodup_append.1 hnd).2.2 _ hm2 (Y : Int) (by simp) rfl
              · rw [decide_eq_false hm2] at u2
                have hXY : (X : Int) ≠ Y := by
                  intro e
                  by_cases hlast : (X : Int) + 1 < n
                  · rw [Int.emod_eq_of_lt (by omega) hlast] at hY; omega
                  · rw [show (X : Int) + 1 = n by omega, Int.emod_self] at hY; omega
                go_wp2
                go_roundw
                case rel =>
                  refine ⟨0 + 1, by omega, by go_num, Lib.hid ((KC.out.far (by simp) _).far (by simp) _), Lib.hid ?_, Lib.hid ((HBR.out.setCell (by simp) _).setCell (by simp) _), Lib.hid ⟨fun i hi => ?_, fun i h0 hi => ?_, ?_⟩⟩
                  · have h1 := (KU.out.set_ X (.bool true)).set_ Y (.bool true)
                    rw [EHS.out] at h1
                    rw [HNX.out]
                    have e : ((usedL hs0).set X (.bool true)).set Y (.bool true) = usedL (hs0 ++ [(X : Int), (Y : Int)]) := by
                      rw [usedL_set, usedL_set, List.append_assoc]; rfl
                    rw [← e]
                    simpa using h1
                  · rcases Nat.lt_succ_iff_lt_or_eq.1 hi with h | rfl
                    · exact HP.out.inn i h
                    · rw [HX.out]; exact ⟨by omega, by omega⟩
                  · rcases Nat.lt_succ_iff_lt_or_eq.1 hi with h | rfl
                    · exact HP.out.up i h0 h
                    · omega
                  · rw [HNX.out, List.nodup_append]
                    refine ⟨HND, by simpa using hXY, ?_⟩
                    intro a ha b hb e
                    simp at hb
                    rcases hb with rfl | rfl
                    · exact hm1 (e ▸ ha)
                    · exact hm2 (e ▸ ha)
                case measure => simp [intOf]; omega
          | succ j =>
            have hcy := HCS.out j (by omega)
            obtain ⟨y, hy⟩ : ∃ y, ps[j]?.getD 0 = y := ⟨_, rfl⟩
            rw [hy] at hcy
            have HY := Lib.hid hy
            clear hy
            by_cases hyx : x ≤ y
            · go_wp2
              go_ret
              exact ⟨ret_bool (Eq.symm (pairsB_down (by omega) hlt (by rw [HX.out, Nat.add_sub_cancel, HY.out]; omega))), by first | exact HBR.out | (rw [eB]; exact HBR.out)⟩
            · have hyx' : y < x := by omega
              obtain ⟨X, rfl⟩ : ∃ X : Nat, x = X := ⟨x.toNat, by omega⟩
              have hY0 : 0 ≤ ((X : Int) + 1) % n := Int.emod_nonneg _ (by omega)
              have hY1 : ((X : Int) + 1) % n < n := Int.emod_lt_of_pos _ (by omega)
              obtain ⟨Y, hY⟩ : ∃ Y : Nat, ((X : Int) + 1) % n = Y := ⟨(((X : Int) + 1) % n).toNat, by omega⟩
              rw [hY] at hY0 hY1
              have hX16 : X < 16 := by omega
              have hY16 : Y < 16 := by omega
              have u1 := KU.out.cell X
              have u2 := KU.out.cell Y
              have f1 := KU.out.frozen X
              have f2 := KU.out.frozen Y
              rw [List.getElem?_toArray, usedL_at hX16] at u1
              rw [List.getElem?_toArray, usedL_at hY16] at u2
              obtain ⟨hs0, ehs⟩ : ∃ hs0, halvesL n (ps.take (j + 1)) = hs0 := ⟨_, rfl⟩
              rw [ehs] at u1 u2
              have HNX : Hid (halvesL n (ps.take ((j + 1) + 1)) = hs0 ++ [(X : Int), (Y : Int)]) := Lib.hid (by rw [take_snoc' ps (j + 1) (by omega), HX.out, halvesL_snoc, nextN, hY, ehs])
              have HND := HP.out.nodup
              rw [ehs] at HND
              have EHS := Lib.hid ehs
              clear ehs
              by_cases hm1 : (X : Int) ∈ hs0
              · rw [decide_eq_true hm1] at u1
                go_wp2
                go_ret
                refine ⟨ret_bool (Eq.symm (pairsB_dup (k := (j + 1) + 1) ?_)), by first | exact HBR.out | (rw [eB]; exact HBR.out)⟩
                rw [HNX.out]
                intro hnd
                exact (List.nodup_append.1 hnd).2.2 _ hm1 (X : Int) (by simp) rfl
              · rw [decide_eq_false hm1] at u1
                by_cases hm2 : (Y : Int) ∈ hs0
                · rw [decide_eq_true hm2] at u2
                  go_wp2
                  go_ret
                  refine ⟨ret_bool (Eq.symm (pairsB_dup (k := (j + 1) + 1) ?_)), by first | exact HBR.out | (rw [eB]; exact HBR.out)⟩
                  rw [HNX.out]
                  intro hnd
                  exact (List.nodup_append.1 hnd).2.2 _ hm2 (Y : Int) (by simp) rfl
                · rw [decide_eq_false hm2] at u2
                  have hXY : (X : Int) ≠ Y := by
                    intro e
                    by_cases hlast : (X : Int) + 1 < n
                    · rw [Int.emod_eq_of_lt (by omega) hlast] at hY; omega
                    · rw [show (X : Int) + 1 = n by omega, Int.emod_self] at hY; omega
                  go_wp2
                  go_roundw
                  case rel =>
                    refine ⟨(j + 1) + 1, by omega, by go_num, Lib.hid ((KC.out.far (by simp) _).far (by simp) _), Lib.hid ?_, Lib.hid ((HBR.out.setCell (by simp) _).setCell (by simp) _), Lib.hid ⟨fun i hi => ?_, fun i h0 hi => ?_, ?_⟩⟩
                    · have h1 := (KU.out.set_ X (.bool true)).set_ Y (.bool true)
                      rw [EHS.out] at h1
                      rw [HNX.out]
                      have e : ((usedL hs0).set X (.bool true)).set Y (.bool true) = usedL (hs0 ++ [(X : Int), (Y : Int)]) := by
                        rw [usedL_set, usedL_set, List.append_assoc]; rfl
                      rw [← e]
                      simpa using h1
                    · rcases Nat.lt_succ_iff_lt_or_eq.1 hi with h | rfl
                      · exact HP.out.inn i h
                      · rw [HX.out]; exact ⟨by omega, by omega⟩
                    · rcases Nat.lt_succ_iff_lt_or_eq.1 hi with h | rfl
                      · exact HP.out.up i h0 h
                      · rw [HX.out, Nat.add_sub_cancel, HY.out]; omega
                    · rw [HNX.out, List.nodup_append]
                      refine ⟨HND, by simpa using hXY, ?_⟩
                      intro a ha b hb e
                      simp at hb
                      rcases hb with rfl | rfl
                      · exact hm1 (e ▸ ha)
                      · exact hm2 (e ▸ ha)
                  case measure => simp [intOf]; omega
    · obtain rfl : k = ps.length := by omega
      go_wp2
      go_ret
      exact ⟨ret_bool (Eq.symm (pairsB_all HP.out)), by first | exact HBR.out | (rw [eB]; exact HBR.out)⟩
end Go.Proofs.YtmpkpikamogpdaaDoor.K
