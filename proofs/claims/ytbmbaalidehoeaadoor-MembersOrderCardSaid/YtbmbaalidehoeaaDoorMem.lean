/- members: one, empty, First, May, Heard, Round; scores: Up, Reward, Penalty. -/
import Derived.Test.YtbmbaalidehoeaaDoorNetF
import Derived.Test.YtbmbaalidehoeaaDoorView
import Derived.Test.YtbmbaalidehoeaaDoorRow
import Derived.Deep.DeepCutAuto
namespace Go.Proofs.YtbmbaalidehoeaaDoor.K
open Go.RowKit

theorem view_size : (Tryd.prog.info? 32).map (·.size) = some 42 := by kernel_rfl
theorem VwOk.inf {cs : Array Value} (h : VwOk cs) : (Tryd.prog.info? 32).map (·.size) = some cs.size := by rw [h.size]; exact view_size

set_option maxHeartbeats 1000000 in
theorem up_any (x : Int) (h : 0 ≤ x ∧ x < 256) (w : World) : Calls Tryd.prog 27 #[.int .u8 x] w fun e w' => e = .returned (.int .u8 (upI x)) ∧ w = w' := by
  obtain ⟨h0, h1⟩ := h
  go_enter Tryd.func27, Tryd.ntmps27
  go_wp2
  go_ret
  exact ⟨rfl, rfl⟩
set_option maxHeartbeats 1000000 in
theorem reward_any (x : Int) (h : 0 ≤ x ∧ x < 65536) (w : World) : Calls Tryd.prog 28 #[.int .u16 x] w fun e w' => e = .returned (.int .u16 (rewardI x)) ∧ w = w' := by
  obtain ⟨h0, h1⟩ := h
  go_enter Tryd.func28, Tryd.ntmps28
  go_wp2
  go_ret
  exact ⟨rfl, rfl⟩
set_option maxHeartbeats 1000000 in
theorem penalty_any (x : Int) (h : 0 ≤ x ∧ x < 65536) (w : World) : Calls Tryd.prog 29 #[.int .u16 x] w fun e w' => e = .returned (.int .u16 (penaltyI x)) ∧ w = w' := by
  obtain ⟨h0, h1⟩ := h
  go_enter Tryd.func29, Tryd.ntmps29
  go_wp2
  go_ret
  exact ⟨rfl, rfl⟩

set_option maxRecDepth 100000 in
set_option maxHeartbeats 4000000 in
/-- The loop of First: pairs of a net, or of none. -/
theorem firstV_call (v : Value) (np : Nat) (w : World) (hf : ∀ (i : Nat) (W : World), i < 8 → Below w.heap.size w W → ∃ x : Int, (0 ≤ x ↔ i < np) ∧ Calls Tryd.prog 22 #[v, .int .i64 i] W fun e w' => e = .returned (.int .i64 x) ∧ W = w') :
    Calls Tryd.prog 25 #[v] w fun e w' => e = .returned (.agg (firstV np)) ∧ Below w.heap.size w w' := by
  have HF := Lib.hid hf
  clear hf
  obtain ⟨Z, hZ⟩ : ∃ Z, zeroV = Z := ⟨_, rfl⟩
  go_enter Tryd.func25, Tryd.ntmps25
  go_wp2_with fail
  have HK := Lib.hid (Blk.new_ w 32 zeroV rfl)
  have HB0 := Lib.hid (ba w (.cells zeroV 32))
  obtain ⟨U, eU⟩ : ∃ U, w.alloc (.cells zeroV 32) = U := ⟨_, rfl⟩
  rw [eU] at HK HB0
  refine gen_wp (fun V => V = U) eU ?_
  rintro V rfl
  clear eU
  go_loopw [3, 4] (fun _ i wr => ∃ k : Nat, k ≤ 8 ∧ i = .int .i64 k ∧ Hid (Blk wr w.heap.size 32 (stepsV (firstStep np) k zeroV)) ∧ Hid (Below w.heap.size w wr)) (fun _ i _ => 8 - (intOf i).toNat)
  case atStart => exact ⟨0, by omega, rfl, HK, HB0⟩
  case round =>
    obtain ⟨k, hk, rfl, KB, HB⟩ := hrel
    obtain ⟨C, eC⟩ : ∃ C, stepsV (firstStep np) k zeroV = C := ⟨_, rfl⟩
    rw [eC] at KB
    have hC : VwOk C := by rw [← eC]; exact stepsV_ok (n := 8) (fun _ _ hp h => h.setB (.inl hp) _) zeroV_ok k hk
    have HC := Lib.hid hC
    have EC := Lib.hid eC
    have hs := hC.size
    clear hC eC
    by_cases hlt : k < 8
    · obtain ⟨x, hx, hcall⟩ := HF.out k wr hlt HB.out
      have HX := Lib.hid hx
      have HCA := Lib.hid hcall
      clear hx hcall
      have k0 : (0 : Int) ≤ (k : Int) := by omega
      have k1 : (k : Int) < 8 := by omega
      have kc := (KB.out.cell k).trans (HC.out.b k (.inl hlt))
      have kf := KB.out.frozen k
      go_wp2_with (go_at_call 22; refine (HCA.out).mono ?_; rintro e w' ⟨rfl, rfl⟩)
      go_roundw
      case rel =>
        refine ⟨k + 1, by omega, by go_num, Lib.hid ?_, Lib.hid (HB.out.setCell (Nat.le_refl _) _)⟩
        have h1 := KB.out.set_ k (.bool (decide (0 ≤ x)))
        have e : (decide (0 ≤ x)) = decide (k < np) := by rw [decide_eq_decide]; exact HX.out
        rw [e] at h1
        rw [e]
        show Blk _ _ _ (firstStep np k (stepsV (firstStep np) k zeroV))
        rw [EC.out]
        exact h1
      case measure => simp [intOf]; omega
    · obtain rfl : k = 8 := by omega
      go_wp2_with (first
        | (refine wpList_load_at rfl 32 (.tmp 2) rfl w.heap.size 0 rfl C _ KB.out.range Tryd.underlying32 rfl HC.out.inf ?_)
        | (refine wpList_store_at rfl 32 (.tmp 2) (.tmp 15) rfl w.heap.size 32 C C KB.out rfl rfl HC.out.inf rfl HC.out.all ?_))
      refine bodyPost_ret (results_row Tryd.results25 _ w.heap.size 32 C rfl (KB.out.setRow C) _ Tryd.underlying32 rfl HC.out.inf) rfl ⟨?_, ?_⟩
      · rw [← EC.out]; rfl
      · exact below_setRowW HB.out (Nat.le_refl _) _

theorem first_mem (p : Nat) (c : Cfg) (w : World) (h : NetAt w p c) :
    Calls Tryd.prog 25 #[.pointer (some ⟨p, 0, none⟩)] w fun e w' => e = .returned (.agg (firstV c.pairs.length)) ∧ Below w.heap.size w w' :=
  firstV_call _ _ w fun i W _ hb => ⟨firstE c i, by
    have := firstE_neg h.1 (i : Int)
    constructor
    · intro g; rcases Nat.lt_or_ge i c.pairs.length with g' | g'
      · exact g'
      · have := this.2 (by omega); omega
    · intro g
      by_cases g' : firstE c i < 0
      · have := this.1 g'; omega
      · omega, first_net p c i W (h.below hb)⟩

/-- The cells of a view in a box. -/
theorem vcells {w : World} {g : Nat} {t : TypeId} {cs : Array Value} (hk : Blk w g t cs) (h : VwOk cs) {k : Nat} (hlt : k < 8) :
    w.cell? ⟨g, k, none⟩ = some (.bool (bl cs k)) ∧ w.cell? ⟨g, 8 + k, none⟩ = some (.int .u8 (nm cs (8 + k))) ∧ w.cell? ⟨g, 16 + k, none⟩ = some (.int .u8 (nm cs (16 + k))) ∧ w.cell? ⟨g, 24 + k, none⟩ = some (.int .u16 (nm cs (24 + k))) ∧ w.cell? ⟨g, 32 + k, none⟩ = some (.bool (bl cs (32 + k))) :=
  ⟨(hk.cell _).trans (h.b _ (.inl hlt)), (hk.cell _).trans (h.u8 _ (by omega) (by omega)).1, (hk.cell _).trans (h.u8 _ (by omega) (by omega)).1, (hk.cell _).trans (h.u16 _ (by omega) (by omega)).1, (hk.cell _).trans (h.b _ (.inr ⟨by omega, by omega⟩))⟩

set_option maxRecDepth 100000 in
set_option maxHeartbeats 4000000 in
theorem empty_any (cs : Array Value) (h : VwOk cs) (k : Nat) (hlt : k < 8) (w : World) :
    Calls Tryd.prog 23 #[.agg cs, .int .i64 k] w fun e w' => e = .returned (.bool (emptyB cs k)) ∧ Below w.heap.size w w' := by
  have m1 := (h.u8 (8 + k) (by omega) (by omega)).2
  have m2 := (h.u8 (16 + k) (by omega) (by omega)).2
  have m3 := (h.u16 (24 + k) (by omega) (by omega)).2
  have k0 : (0 : Int) ≤ (k : Int) := by omega
  have k1 : (k : Int) < 8 := by omega
  obtain ⟨R, hR⟩ : ∃ R, emptyB cs k = R := ⟨_, rfl⟩
  have HR := Lib.hid hR
  rw [hR]
  clear hR
  unfold emptyB at HR
  have HC := Lib.hid h
  clear h
  go_enter Tryd.func23, Tryd.ntmps23
  go_upto_region 1 with fail
  refine gen_wp (fun U => Hid (Blk U w.heap.size 32 cs) ∧ Hid (Below w.heap.size w U)) ⟨Lib.hid (Blk.new_ w _ _ rfl), Lib.hid (ba _ _)⟩ ?_
  rintro U ⟨K, HB⟩
  obtain ⟨c1, c2, c3, c4, c5⟩ := vcells K.out HC.out hlt
  obtain ⟨b1, e1⟩ : ∃ b, bl cs k = b := ⟨_, rfl⟩
  obtain ⟨b2, e2⟩ : ∃ b, bl cs (32 + k) = b := ⟨_, rfl⟩
  obtain ⟨x1, e3⟩ : ∃ b, nm cs (8 + k) = b := ⟨_, rfl⟩
  obtain ⟨x2, e4⟩ : ∃ b, nm cs (16 + k) = b := ⟨_, rfl⟩
  obtain ⟨x3, e5⟩ : ∃ b, nm cs (24 + k) = b := ⟨_, rfl⟩
  rw [e1, e2, e3, e4, e5] at HR
  rw [e1] at c1
  rw [e3] at c2 m1
  rw [e4] at c3 m2
  rw [e5] at c4 m3
  rw [e2] at c5
  clear e1 e2 e3 e4 e5
  cases b1
  · cases b2
    · by_cases z1 : x1 = 0
      · subst z1
        by_cases z2 : x2 = 0
        · subst z2
          by_cases z3 : x3 = 0
          · subst z3
            go_wp2
            go_ret
            exact ⟨ret_bool (by rw [← HR.out]; rfl), HB.out⟩
          · have z3' : (x3 == 0) = false := by simpa using z3
            have HZ := Lib.hid z3'
            go_wp2
            go_ret
            exact ⟨ret_bool (by rw [← HR.out, HZ.out]; rfl), HB.out⟩
        · have z2' : (x2 == 0) = false := by simpa using z2
          have HZ := Lib.hid z2'
          go_wp2
          go_ret
          exact ⟨ret_bool (by rw [← HR.out, HZ.out]; rfl), HB.out⟩
      · have z1' : (x1 == 0) = false := by simpa using z1
        have HZ := Lib.hid z1'
        go_wp2
        go_ret
        exact ⟨ret_bool (by rw [← HR.out, HZ.out]; rfl), HB.out⟩
    · go_wp2
      go_ret
      exact ⟨ret_bool (by rw [← HR.out]; rfl), HB.out⟩
  · go_wp2
    go_ret
    exact ⟨ret_bool (by rw [← HR.out]; rfl), HB.out⟩
end Go.Proofs.YtbmbaalidehoeaaDoor.K
