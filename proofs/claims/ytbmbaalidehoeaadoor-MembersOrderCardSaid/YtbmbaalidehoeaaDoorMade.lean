/- configs.New of a config that is right: a net that reads as the config. -/
import Derived.Test.YtbmbaalidehoeaaDoorNew
import Derived.Laws.EntriesVeiled
import Derived.Deep.RegionHeld3
import Derived.Deep.DeepCutAuto
namespace Go.Proofs.YtbmbaalidehoeaaDoor.K
open Go.RowKit

theorem nz_zero {xs : List Int} (h : newE.eachNZ xs = 0) : ∀ x ∈ xs, x = 0 := by
  induction xs with
  | nil => simp
  | cons a xs ih =>
    rw [newE.eachNZ] at h
    split at h
    · rename_i h0
      intro x hx
      rcases List.mem_cons.1 hx with rfl | hx
      · exact h0
      · exact ih h x hx
    · rename_i h0; exact absurd h h0
theorem newE_zero {c : Cfg} (h : newE c = 0) : ∀ j, j < 10 → ruleE c j = 0 := fun j hj => nz_zero h _ (by simp only [List.mem_map, List.mem_range]; exact ⟨j, hj, rfl⟩)


/-- Whose each node is: pair by pair, half by half. -/
def prK (n : Nat) (ps : List Int) : Nat → List Int
  | 0 => List.replicate n (-1)
  | k + 1 => (prK n ps k).set ((halvesL n ps)[k]?.getD 0).toNat ((k / 2 : Nat) : Int)
theorem prK_length (n : Nat) (ps : List Int) (k : Nat) : (prK n ps k).length = n := by
  induction k with
  | zero => simp [prK]
  | succ k ih => rw [prK, List.length_set, ih]
def pairsL (n : Nat) (ps : List Int) : List Int := prK n ps (2 * ps.length)

/-- A net of a config lies at block p. -/
def NetAt (w : World) (p : Nat) (c : Cfg) : Prop :=
  newE c = 0 ∧ ∃ g A1 A2 A3 A4, Blk w p 71 #[.int .i64 c.nodes, .slice A1 c.pairs.length c.pairs.length, .slice A2 c.slots.length c.slots.length, .int .i64 c.long, .slice A3 c.boots.length c.boots.length, .slice A4 c.stations.length c.stations.length, .int .i64 c.miss, .int .i64 c.good, .int .i64 c.fresh, .slice (some ⟨g, 0, none⟩) c.nodes.toNat c.nodes.toNat] ∧
    RdI w A1 c.pairs ∧ RdI w A2 c.slots ∧ RdI w A3 c.boots ∧ RdV w A4 (stnCells c.stations) ∧ RdI w (some ⟨g, 0, none⟩) (pairsL c.nodes.toNat c.pairs)
theorem NetAt.below {w w' : World} {p : Nat} {c : Cfg} (h : NetAt w p c) (hb : Below w.heap.size w w') : NetAt w' p c := by
  obtain ⟨hE, g, A1, A2, A3, A4, h0, h1, h2, h3, h4, h5⟩ := h
  exact ⟨hE, g, A1, A2, A3, A4, h0.below hb, h1.below hb, h2.below hb, h3.below hb, h4.below hb, h5.below hb⟩
theorem NetAt.lt {w : World} {p : Nat} {c : Cfg} (h : NetAt w p c) : p < w.heap.size := by
  obtain ⟨_, g, A1, A2, A3, A4, h0, _⟩ := h
  exact h0.lt
theorem halves_in {n : Int} (hn : 0 < n) {ps : List Int} (h : ∀ a ∈ ps, 0 ≤ a ∧ a < n) : ∀ x ∈ halvesL n ps, 0 ≤ x ∧ x < n := by
  intro x hx
  simp only [halvesL, List.mem_flatMap] at hx
  obtain ⟨a, ha, hx⟩ := hx
  simp at hx
  rcases hx with rfl | rfl
  · exact h x ha
  · exact ⟨Int.emod_nonneg _ (by omega), Int.emod_lt_of_pos _ hn⟩

set_option maxRecDepth 100000 in
set_option maxHeartbeats 8000000 in
theorem new_ok (n : Int) (A1 : Option Addr) (c1 : Nat) (ps : List Int) (A2 : Option Addr) (c2 : Nat) (ss : List Int) (long : Int) (A3 : Option Addr) (c3 : Nat) (bs : List Int) (A4 : Option Addr) (c4 : Nat) (st : List Stn) (miss good fresh : Int) (w : World) (hc : CfgIn w A1 ps A2 ss A3 bs A4 st) (hb : newE ⟨n, ps, ss, long, bs, st, miss, good, fresh⟩ = 0) :
    Calls Tryd.prog 7 #[(.agg #[.int .i64 n, .slice A1 ps.length c1, .slice A2 ss.length c2, .int .i64 long, .slice A3 bs.length c3, .slice A4 st.length c4, .int .i64 miss, .int .i64 good, .int .i64 fresh])] w fun e w' => ∃ p, e = .returned (.tuple #[.pointer (some ⟨p, 0, none⟩), .int .i64 0]) ∧ NetAt w' p ⟨n, ps, ss, long, bs, st, miss, good, fresh⟩ ∧ w.heap.size ≤ p ∧ Below w.heap.size w w' := by
  have HALL := Lib.hid (newE_zero hb)
  have HC := Lib.hid hc
  clear hb hc
  go_enter Tryd.func7, Tryd.ntmps7
  go_wp2_with (go_at_call 17; refine (rules_any _).mono ?_; rintro e w' ⟨rfl, rfl⟩)
  refine gen_wp (fun W => Blk W w.heap.size 25 #[.int .i64 n, .slice A1 ps.length c1, .slice A2 ss.length c2, .int .i64 long, .slice A3 bs.length c3, .slice A4 st.length c4, .int .i64 miss, .int .i64 good, .int .i64 fresh] ∧ Blk W (w.heap.size + 1) 67 ruleCells ∧ Below w.heap.size w W) ⟨(Blk.new_ w _ _ rfl).alloc _, Blk.new_ (w.alloc _) _ _ (by simp), ((Below.refl _ w).alloc (Nat.le_refl _) _).alloc (by simp) _⟩ ?_
  rintro W ⟨k0, k1, hb⟩
  have K0 := Lib.hid k0
  have K1 := Lib.hid k1
  have HB := Lib.hid hb
  have HCW := Lib.hid (HC.out.below hb)
  clear k0 k1 hb
  go_loopw [5, 6, 12] (fun _ _ i wr => ∃ k : Nat, k ≤ 10 ∧ i = .int .i64 k ∧ Below W.heap.size W wr) (fun _ _ i _ => 10 - (intOf i).toNat)
  case atStart => exact ⟨0, Nat.zero_le _, rfl, Below.refl _ _⟩
  case round =>
    obtain ⟨k, hk, rfl, hnx⟩ := hrel
    have HN := Lib.hid hnx
    clear hnx
    by_cases hlt : k < 10
    · have hcell : wr.cell? ⟨w.heap.size + 1, k, none⟩ = some (.func (.func (ruleF k)) #[] #[]) := by
        rw [(K1.out.below HN.out).cell k]
        simp [ruleCells, hlt]
      obtain ⟨g, hg⟩ : ∃ g, ruleF k = g := ⟨_, rfl⟩
      have eg := rule_enters k hlt
      rw [hg] at hcell eg
      obtain ⟨q0, q1, q2, q3, q4, q5, q6, q7, q8⟩ := box9 (K0.out.below HN.out)
      have hsz : w.heap.size + 1 < wr.heap.size := (K1.out.below HN.out).lt
      have hsz0 : w.heap.size < wr.heap.size := (K0.out.below HN.out).lt
      have hlt' : (k : Int) < 10 := by omega
      have hR := rule_any n A1 c1 ps A2 c2 ss long A3 c3 bs A4 c4 st miss good fresh (wr.alloc (.cells #[.func (.func g) #[] #[]] 67)) ((HCW.out.below HN.out).below ((Below.refl _ _).alloc (Nat.le_refl _) _)) k hlt (fun j hj => HALL.out j (by omega))
      rw [hg, HALL.out k hlt] at hR
      have HR := Lib.hid hR
      have HG := Lib.hid hg
      clear hR hg
      go_wp2_with (go_at_fn g; refine (HR.out).mono ?_; rintro e w2 ⟨rfl, hb2⟩)
      go_roundw
      case rel => exact ⟨k + 1, by omega, by go_num, (HN.out.alloc HN.out.size _).trans (hb2.mono (by have := HN.out.size; simp; omega))⟩
      case measure => simp [intOf]; omega
    · obtain rfl : k = 10 := by omega
      obtain ⟨q0, q1, q2, q3, q4, q5, q6, q7, q8⟩ := box9 (K0.out.below HN.out)
      have hsz0 : w.heap.size < wr.heap.size := (K0.out.below HN.out).lt
      have l0 := within_zero (HALL.out 0 (by omega))
      have l1 := within_zero (HALL.out 1 (by omega))
      have l3 := within_zero (HALL.out 3 (by omega))
      have l6 : (bs.length : Int) = n := by
        have := HALL.out 6 (by omega)
        by_cases h : (bs.length : Int) = n
        · exact h
        · have h' : ((bs.length : Int) == n) = false := by simpa using h
          simp [ruleE, rule7, h', mustE, first2] at this
      have l7 := within_zero (HALL.out 7 (by omega))
      dsimp only at l0 l1 l3 l7
      obtain ⟨N, hN⟩ : ∃ N : Nat, n = N := ⟨n.toNat, by omega⟩
      subst hN
      have HCR := Lib.hid (HCW.out.below HN.out)
      go_upto_region 8 with fail
      go_cut [7] (fun s7 wx => Made w wx N (N : Int) A1 c1 ps A2 c2 ss long A3 c3 bs A4 c4 st miss good fresh s7)
      case first =>
        go_region_held3 (fun V => V.cell? ⟨w.heap.size, 0, none⟩ = some (.int .i64 (N : Int)) ∧ V.cell? ⟨w.heap.size, 1, none⟩ = some (.slice A1 ps.length c1) ∧ V.cell? ⟨w.heap.size, 2, none⟩ = some (.slice A2 ss.length c2) ∧ V.cell? ⟨w.heap.size, 3, none⟩ = some (.int .i64 long) ∧ V.cell? ⟨w.heap.size, 4, none⟩ = some (.slice A3 bs.length c3) ∧ V.cell? ⟨w.heap.size, 5, none⟩ = some (.slice A4 st.length c4) ∧ V.cell? ⟨w.heap.size, 6, none⟩ = some (.int .i64 miss) ∧ V.cell? ⟨w.heap.size, 7, none⟩ = some (.int .i64 good) ∧ V.cell? ⟨w.heap.size, 8, none⟩ = some (.int .i64 fresh)) ((refine box9 (Blk.below K0.out ?_); repeat (first | (with_reducible exact HN.out) | (with_reducible refine Below.drew ?_) | (with_reducible refine Below.allocW ?_ _) | (with_reducible refine Below.then_ ?_ (by assumption))))) (first | (go_at_call 18; refine (own_cfg (N : Int) A1 c1 ps A2 c2 ss long A3 c3 bs A4 c4 st miss good fresh _ (HCW.out.below ?_) (by omega) (by omega) (by omega) (by omega)).mono ?_; (repeat (first | (with_reducible exact HN.out) | (with_reducible refine Below.drew ?_) | (with_reducible refine Below.allocW ?_ _) | (with_reducible refine Below.then_ ?_ (by assumption)))); rintro e wo ⟨B1, B2, B3, B4, rfl, i1, i2, i3, i4, hfo, hbo⟩) | (go_at_call 19; refine (repeat_any N _ _ _ (by omega) (by omega) ?_).mono ?_; (first | (focus (simp; done)) | (focus (exact Below.keeps hbo (by simp)))); rintro e wp ⟨rfl, hkp, hbp⟩))
        · have hop : Below wo.heap.size wo wp := Below.then_ (Below.allocW (Below.refl _ wo) _) hbp
          have hon := Below.allocW hop (.cells #[.int .i64 (N : Int), .slice B1 ps.length ps.length, .slice B2 ss.length ss.length, .int .i64 long, .slice B3 bs.length bs.length, .slice B4 st.length st.length, .int .i64 miss, .int .i64 good, .int .i64 fresh, .slice (some ⟨wo.heap.size + 1, 0, none⟩) N N] 71)
          have z1 := hbo.size
          have z2 := hop.size
          have z3 := hkp.lt
          simp at z1 z3 hkp
          have hW : Below W.heap.size W (wp.alloc (.cells #[.int .i64 (N : Int), .slice B1 ps.length ps.length, .slice B2 ss.length ss.length, .int .i64 long, .slice B3 bs.length bs.length, .slice B4 st.length st.length, .int .i64 miss, .int .i64 good, .int .i64 fresh, .slice (some ⟨wo.heap.size + 1, 0, none⟩) N N] 71)) := by repeat (first | (with_reducible exact HN.out) | (with_reducible refine Below.drew ?_) | (with_reducible refine Below.allocW ?_ _) | (with_reducible refine Below.then_ ?_ (by assumption)))
          have HWH := Lib.hid hW
          have HON := Lib.hid hon
          have HKP := Lib.hid (hkp.alloc (.cells #[.int .i64 (N : Int), .slice B1 ps.length ps.length, .slice B2 ss.length ss.length, .int .i64 long, .slice B3 bs.length bs.length, .slice B4 st.length st.length, .int .i64 miss, .int .i64 good, .int .i64 fresh, .slice (some ⟨wo.heap.size + 1, 0, none⟩) N N] 71))
          have I1 := Lib.hid i1
          have I2 := Lib.hid i2
          have I3 := Lib.hid i3
          have I4 := Lib.hid i4
          clear hW hon hkp hbp hbo hfo hop i1 i2 i3 i4
          go_wp2_with fail
          go_meet
          refine ⟨wp.heap.size, wo.heap.size + 1, B1, B2, B3, B4, rfl, Blk.new_ wp _ _ rfl, I1.out.below HON.out, I2.out.below HON.out, I3.out.below HON.out, I4.out.below HON.out, ⟨fun h a ha => ?_, fun h a ha => ?_, fun h a ha => ?_, fun h a ha => ?_⟩, HKP.out, by omega, by omega, by omega, K0.out.below HWH.out, Below.then_ HB.out HWH.out⟩
          · have := I1.out.lt h a ha; omega
          · have := I2.out.lt h a ha; omega
          · have := I3.out.lt h a ha; omega
          · have := I4.out.lt h a ha; omega
        · have hop : Below wo.heap.size wo wp := hbp
          have hon := Below.allocW hop (.cells #[.int .i64 (N : Int), .slice B1 ps.length ps.length, .slice B2 ss.length ss.length, .int .i64 long, .slice B3 bs.length bs.length, .slice B4 st.length st.length, .int .i64 miss, .int .i64 good, .int .i64 fresh, .slice (some ⟨wo.heap.size, 0, none⟩) N N] 71)
          have z1 := hbo.size
          have z2 := hop.size
          have z3 := hkp.lt
          simp at z1 z3 hkp
          have hW : Below W.heap.size W (wp.alloc (.cells #[.int .i64 (N : Int), .slice B1 ps.length ps.length, .slice B2 ss.length ss.length, .int .i64 long, .slice B3 bs.length bs.length, .slice B4 st.length st.length, .int .i64 miss, .int .i64 good, .int .i64 fresh, .slice (some ⟨wo.heap.size, 0, none⟩) N N] 71)) := by repeat (first | (with_reducible exact HN.out) | (with_reducible refine Below.drew ?_) | (with_reducible refine Below.allocW ?_ _) | (with_reducible refine Below.then_ ?_ (by assumption)))
          have HWH := Lib.hid hW
          have HON := Lib.hid hon
          have HKP := Lib.hid (hkp.alloc (.cells #[.int .i64 (N : Int), .slice B1 ps.length ps.length, .slice B2 ss.length ss.length, .int .i64 long, .slice B3 bs.length bs.length, .slice B4 st.length st.length, .int .i64 miss, .int .i64 good, .int .i64 fresh, .slice (some ⟨wo.heap.size, 0, none⟩) N N] 71))
          have I1 := Lib.hid i1
          have I2 := Lib.hid i2
          have I3 := Lib.hid i3
          have I4 := Lib.hid i4
          clear hW hon hkp hbp hbo hfo hop i1 i2 i3 i4
          go_wp2_with fail
          go_meet
          refine ⟨wp.heap.size, wo.heap.size, B1, B2, B3, B4, rfl, Blk.new_ wp _ _ rfl, I1.out.below HON.out, I2.out.below HON.out, I3.out.below HON.out, I4.out.below HON.out, ⟨fun h a ha => ?_, fun h a ha => ?_, fun h a ha => ?_, fun h a ha => ?_⟩, HKP.out, by omega, by omega, by omega, K0.out.below HWH.out, Below.then_ HB.out HWH.out⟩
          · have := I1.out.lt h a ha; omega
          · have := I2.out.lt h a ha; omega
          · have := I3.out.lt h a ha; omega
          · have := I4.out.lt h a ha; omega
      case rest =>
        obtain ⟨p, g, B1, B2, B3, B4, rfl, hp, i1, i2, i3, i4, ⟨x1, x2, x3, x4⟩, hg, hpg, hpw, hgw, hcf, hbw⟩ := hcut
        obtain ⟨q0, q1, q2, q3, q4, q5, q6, q7, q8⟩ := box9 hcf
        have hsc : w.heap.size < wc.heap.size := hcf.lt
        have hpc : p < wc.heap.size := hp.lt
        have hgc : g < wc.heap.size := hg.lt
        have hin : ∀ a ∈ ps, 0 ≤ a ∧ a < (N : Int) := by
          have h3 := HALL.out 2 (by omega)
          simp only [ruleE, rule3, mustE] at h3
          split at h3
          · rename_i h3'
            have h4 : ps.any (notIn N) = false := by
              simp only [Bool.and_eq_true, Bool.not_eq_true'] at h3'
              exact h3'.1.1
            intro a ha
            have h5 := (List.any_eq_false.1 h4) a ha
            simp only [notIn, Bool.or_eq_true, decide_eq_true_eq, not_or] at h5
            omega
          · cases h3
        have hHI := halves_in (n := (N : Int)) (by omega) hin
        have HHI := Lib.hid hHI
        have HH := Lib.hid (halves_any (N : Int) A1 c1 ps (.slice A2 ss.length c2) (.slice A3 bs.length c3) (.slice A4 st.length c4) long miss good fresh wc (HC.out.below hbw).signs (HC.out.below hbw).r1 (by omega) l0.1 l0.2 hin)
        have HP := Lib.hid hp
        have I1 := Lib.hid i1
        have I2 := Lib.hid i2
        have I3 := Lib.hid i3
        have I4 := Lib.hid i4
        have X1 := Lib.hid x1
        have X2 := Lib.hid x2
        have X3 := Lib.hid x3
        have X4 := Lib.hid x4
        have HG := Lib.hid hg
        have HBW := Lib.hid hbw
        clear hp i1 i2 i3 i4 hg hcf hbw hin hHI x1 x2 x3 x4
        go_wp2_with (go_at_call 20; refine (HH.out).mono ?_; rintro e wh ⟨vh, rfl, hoh, hbh⟩; obtain ⟨Ah, ch, rfl, hch, hch'⟩ := own_form hoh)
        have y0 : ∀ a, Ah = some a → a.block ≠ g := fun a h => by have := own_fresh hoh a h; omega
        have Y0 := Lib.hid y0
        have hh : RdI wh Ah (halvesL (N : Int) ps) := RdI.of_own hoh
        obtain ⟨hs, ehs⟩ : ∃ hs, halvesL (N : Int) ps = hs := ⟨_, rfl⟩
        have hhl : hs.length = 2 * ps.length := by rw [← ehs, halvesL_length]
        have HL2 := Lib.hid hh
        have hHI := HHI.out
        rw [ehs] at HL2 hHI
        have EHS := Lib.hid ehs
        have HHI2 := Lib.hid hHI
        have HBH := Lib.hid hbh
        have hzh : wc.heap.size ≤ wh.heap.size := hbh.size
        clear hoh hbh y0 hh ehs hHI
        go_loopw [8, 9, 35] (fun _ _ i wr => ∃ k : Nat, k ≤ 2 * ps.length ∧ i = .int .i64 k ∧ Hid (Blk wr p 71 #[.int .i64 (N : Int), .slice B1 ps.length ps.length, .slice B2 ss.length ss.length, .int .i64 long, .slice B3 bs.length bs.length, .slice B4 st.length st.length, .int .i64 miss, .int .i64 good, .int .i64 fresh, .slice (some ⟨g, 0, none⟩) N N]) ∧
          Hid (RdV wr B1 (ps.map (Value.int .i64)) ∧ RdV wr B2 (ss.map (Value.int .i64)) ∧ RdV wr B3 (bs.map (Value.int .i64)) ∧ RdV wr B4 (stnCells st) ∧ RdV wr Ah (hs.map (Value.int .i64))) ∧
          Hid (Blk wr g 3 ((prK N ps k).map (Value.int .i64)).toArray) ∧ Below w.heap.size w wr)
          (fun _ _ i _ => 2 * ps.length - (intOf i).toNat)
        case atStart =>
          refine ⟨0, by omega, rfl, Lib.hid (HP.out.below HBH.out), Lib.hid ⟨I1.out.below HBH.out, I2.out.below HBH.out, I3.out.below HBH.out, I4.out.below HBH.out, HL2.out.toV⟩, Lib.hid ?_, Below.then_ HBW.out HBH.out⟩
          have := HG.out.below HBH.out
          simpa [prK] using this
        case round =>
          obtain ⟨k, hk, rfl, HP', HI', HG', hnx⟩ := hrel
          have HN' := Lib.hid hnx
          have z1 : p < wr.heap.size := HP'.out.lt
          have z2 : g < wr.heap.size := HG'.out.lt
          clear hnx
          by_cases hlt : k < 2 * ps.length
          · obtain ⟨b, off, rfl, hcs⟩ := HI'.out.2.2.2.2.toI.at_ (k := k) (by omega)
            have hcx := hcs k (by omega)
            obtain ⟨x, hx⟩ : ∃ x, hs[k]?.getD 0 = x := ⟨_, rfl⟩
            have hxin : 0 ≤ x ∧ x < (N : Int) := by
              rw [← hx, List.getElem?_eq_getElem (by omega)]
              exact HHI2.out _ (List.getElem_mem (by omega))
            rw [hx] at hcx
            obtain ⟨X, rfl⟩ : ∃ X : Nat, x = X := ⟨x.toNat, by omega⟩
            have hp9 := HP'.out.cell 9
            have hg0 := HG'.out.frozen X
            have hgX := HG'.out.cell X
            simp at hp9
            have hXl : X < (prK N ps k).length := by rw [prK_length]; omega
            rw [List.getElem?_toArray, List.getElem?_map, List.getElem?_eq_getElem hXl] at hgX
            simp only [Option.map_some] at hgX
            have HX := Lib.hid hx
            have HCS := Lib.hid hcs
            clear hcs hx
            go_wp2
            go_roundw
            case rel =>
              refine ⟨k + 1, by omega, by go_num, Lib.hid (HP'.out.far (by simpa using hpg) _), Lib.hid ⟨HI'.out.1.far_ (by simpa using X1.out) _, HI'.out.2.1.far_ (by simpa using X2.out) _, HI'.out.2.2.1.far_ (by simpa using X3.out) _, HI'.out.2.2.2.1.far_ X4.out _, HI'.out.2.2.2.2.far Y0.out _⟩, Lib.hid ?_, HN'.out.setCell (by simp; omega) _⟩
              have ek : prK N ps (k + 1) = (prK N ps k).set X ((k / 2 : Nat) : Int) := by
                rw [prK, EHS.out, HX.out, Int.toNat_natCast]
              rw [ek]
              have := HG'.out.set_ X (.int .i64 ((k / 2 : Nat) : Int))
              simpa [List.map_set] using this
            case measure => simp [intOf]; omega
          · obtain rfl : k = 2 * ps.length := by omega
            go_wp2
            go_ret2
            refine ⟨p, rfl, ⟨newE_ok HALL.out, g, B1, B2, B3, B4, HP'.out, HI'.out.1.toI, HI'.out.2.1.toI, HI'.out.2.2.1.toI, HI'.out.2.2.2.1, ?_⟩, hpw, HN'.out⟩
            refine RdV.toI fun _ => ⟨g, 0, rfl, fun j u hj => ?_⟩
            rw [Nat.zero_add, HG'.out.cell j, List.getElem?_toArray]
            exact hj
end Go.Proofs.YtbmbaalidehoeaaDoor.K
