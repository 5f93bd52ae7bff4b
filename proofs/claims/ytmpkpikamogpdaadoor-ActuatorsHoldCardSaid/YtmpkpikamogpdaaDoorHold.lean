/- sennitlaw26.ActuatorsHold answers true. -/
import Derived.Test.YtmpkpikamogpdaaDoorLives
namespace Go.Proofs.YtmpkpikamogpdaaDoor.K
open Go.RowKit

theorem hold_takes (safe H x0 x1 R : Int) (hr : 0 ≤ R ∧ R ≤ 1000000) : takeOk [⟨0, safe, H⟩] 0 ⟨false, 0, 0, 0⟩ ⟨true, 0, 2, 0, x0, x1, 0, 0, R⟩ = true := by
  have c4 : cond4 ⟨true, 0, 2, 0, x0, x1, 0, 0, R⟩ = true := by unfold cond4; simp; omega
  unfold takeOk
  rw [c4]
  rfl
theorem hold_out (safe H x0 x1 R i : Int) : outE [⟨0, safe, H⟩] 0 ⟨true, x0, x1, R⟩ (R + i) = if 0 ≤ i ∧ i < H then x1 else safe := by
  show (if (true && (decide (R ≤ R + i) && decide (R + i - R < H))) = true then x1 else safe) = _
  by_cases h : 0 ≤ i ∧ i < H
  · rw [if_pos h, if_pos (by simp; omega)]
  · rw [if_neg h, if_neg (by simp; omega)]

set_option maxRecDepth 100000 in
set_option maxHeartbeats 8000000 in
theorem hold_any (safe hold x0 x1 x2 : Int) (w : World) (hs : Signs w) (hh : 0 ≤ hold ∧ hold < 256) (hx : 0 ≤ x2 ∧ x2 < 4294967296) :
    Calls Tryd.prog 3 #[.int .u32 safe, .int .u8 hold, .agg #[.int .u32 x0, .int .u32 x1, .int .u32 x2]] w fun e w' => e = .returned (.bool true) ∧ Below w.heap.size w w' := by
  have HS := Lib.hid hs
  clear hs
  go_enter Tryd.func3, Tryd.ntmps3
  go_wp2_with fail
  obtain ⟨H, eH⟩ : ∃ H, 1 + hold % 100 = H := ⟨_, rfl⟩
  have hH : 1 ≤ H ∧ H ≤ 100 := by omega
  obtain ⟨R, eR⟩ : ∃ R, x2 % 1000001 = R := ⟨_, rfl⟩
  have hR : 0 ≤ R ∧ R ≤ 1000000 := by omega
  rw [eH]
  go_at_call 11
  refine (net_any safe H _ (HS.out.below (ba _ _)) hH).mono ?_
  rintro e wn ⟨p, rfl, hna, hbn⟩
  have hk := (Blk.new_ w 23 #[.int .u32 x0, .int .u32 x1, .int .u32 x2] rfl).below hbn
  have c0 := hk.cell 0
  have c1 := hk.cell 1
  have c2 := hk.cell 2
  simp at c0 c1 c2
  have hkl := hk.lt
  have HNV := Lib.hid (NetV.of hna)
  have HBW := Lib.hid (Below.then_ (ba _ _) hbn)
  have HK := Lib.hid hk
  clear hna hk hbn
  go_wp2_with (go_at_call 13; refine (order_any _ _ _ _ _ _).mono ?_; rintro e wo ⟨rfl, hbo⟩)
  go_at_call 12
  refine (take_any _ [⟨0, safe, H⟩] 0 ⟨false, 0, 0, 0⟩ ⟨true, 0, 2, 0, x0, x1, 0, 0, R⟩ _ (HS.out.below (Below.then_ HBW.out hbo)) (HNV.out.below hbo) ⟨by simp, by simp⟩).mono ?_
  have ts : takeS [⟨0, safe, H⟩] 0 ⟨false, 0, 0, 0⟩ ⟨true, 0, 2, 0, x0, x1, 0, 0, R⟩ = ⟨true, x0, x1, R⟩ := by unfold takeS; rw [hold_takes safe H x0 x1 R hR]; rfl
  rw [hold_takes safe H x0 x1 R hR, ts]
  rintro e wt ⟨rfl, hbt⟩
  simp only [ASt.V]
  go_wp2_with fail
  refine gen_wp (fun W => Hid (Blk W w.heap.size 23 #[.int .u32 x0, .int .u32 x1, .int .u32 x2]) ∧ Hid (NetV W (.pointer (some ⟨p, 0, none⟩)) [⟨0, safe, H⟩]) ∧ Hid (Below w.heap.size w W) ∧ Hid (Blk W wt.heap.size 27 #[.bool true, .int .u32 x0, .int .u32 x1, .int .i64 R])) ⟨Lib.hid (HK.out.below (Below.allocW (Below.then_ hbo hbt) _)), Lib.hid (HNV.out.below (Below.allocW (Below.then_ hbo hbt) _)), Lib.hid (Below.then_ HBW.out (Below.allocW (Below.then_ hbo hbt) _)), Lib.hid (Blk.new_ wt _ _ rfl)⟩ ?_
  obtain ⟨T, eT⟩ : ∃ T, wt.heap.size = T := ⟨_, rfl⟩
  rw [eT]
  rintro W ⟨K0, HN, HB, K1⟩
  clear HK HNV HBW hbo hbt ts c0 c1 c2 hkl
  have HH9 : Hid (∀ x ∈ ([⟨0, safe, H⟩] : List Stn), 1 ≤ x.hold ∧ x.hold ≤ 100) := Lib.hid (by intro x hx; simp at hx; subst hx; exact hH)
  go_loopw [12, 13] (fun i _ wr => ∃ k : Int, -3 ≤ k ∧ k ≤ 104 ∧ i = .int .i64 k ∧ Below W.heap.size W wr) (fun i _ _ => (104 - intOf i).toNat)
  case atStart => exact ⟨-3, by omega, by omega, rfl, Below.refl _ _⟩
  case round =>
    obtain ⟨k, hk0, hk1, rfl, hnx⟩ := hrel
    have HN1 := Lib.hid hnx
    obtain ⟨q0, q1, q2, q3⟩ := box4 (K1.out.below hnx)
    have x1c := (K0.out.below hnx).cell 1
    simp at x1c
    have hq := (K1.out.below hnx).lt
    have hqx := (K0.out.below hnx).lt
    have HOUT := Lib.hid (output_any _ [⟨0, safe, H⟩] 0 ⟨true, x0, x1, R⟩ (R + k) wr (HS.out.below (Below.then_ HB.out hnx)) (HN.out.below hnx) ⟨by omega, by omega⟩ ⟨by dsimp only; omega, by dsimp only; omega⟩ HH9.out)
    rw [hold_out] at HOUT
    clear hnx
    by_cases hlt : k < 104
    · by_cases h0 : 0 ≤ k
      · by_cases h1 : k < H
        · rw [if_pos ⟨h0, h1⟩] at HOUT
          go_wp2_with (go_at_call 14; refine (HOUT.out).mono ?_; rintro e wu ⟨rfl, hbu⟩)
          go_roundw
          case rel => exact ⟨k + 1, by omega, by omega, by go_num, Below.then_ HN1.out hbu⟩
          case measure => simp [intOf]; omega
        · rw [if_neg (by omega)] at HOUT
          go_wp2_with (go_at_call 14; refine (HOUT.out).mono ?_; rintro e wu ⟨rfl, hbu⟩)
          go_roundw
          case rel => exact ⟨k + 1, by omega, by omega, by go_num, Below.then_ HN1.out hbu⟩
          case measure => simp [intOf]; omega
      · rw [if_neg (by omega)] at HOUT
        go_wp2_with (go_at_call 14; refine (HOUT.out).mono ?_; rintro e wu ⟨rfl, hbu⟩)
        go_roundw
        case rel => exact ⟨k + 1, by omega, by omega, by go_num, Below.then_ HN1.out hbu⟩
        case measure => simp [intOf]; omega
    · go_wp2_with (go_at_call 15; refine (lives_any _ (HS.out.below (Below.then_ HB.out HN1.out))).mono ?_; rintro e wl ⟨rfl, hbl⟩)
      go_ret
      exact ⟨rfl, Below.then_ (Below.then_ HB.out HN1.out) hbl⟩
end Go.Proofs.YtmpkpikamogpdaaDoor.K
