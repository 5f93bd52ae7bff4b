/- clocks.Age and Ahead by a net. -/
import Derived.Test.YtmpkpikamogpdaaDoorClk2
namespace Go.Proofs.YtmpkpikamogpdaaDoor.K
open Go.RowKit

/-- The age of a time, and whether there is one. -/
def ageV (c : Cfg) (t : Tm) : Int := t.round * roundT c + t.slot * c.long + t.place
def ageOk (c : Cfg) (t : Tm) : Prop := 0 ≤ t.round ∧ t.round ≤ 1099511627776 / roundT c ∧ (0 ≤ t.slot ∧ t.slot < c.slots.length) ∧ 0 ≤ t.place ∧ t.place < c.long ∧ ageV c t ≤ 1099511627776
instance (c : Cfg) (t : Tm) : Decidable (ageOk c t) := by unfold ageOk; infer_instance
def ageR (c : Cfg) (t : Tm) : Int := if ageOk c t then ageV c t else 0
def ageE (c : Cfg) (t : Tm) : Int := if ageOk c t then 0 else 1

theorem mul_small {s L : Int} (h0 : 0 ≤ s) (h1 : s ≤ 15) (l0 : 0 ≤ L) (l1 : L ≤ 4096) : 0 ≤ s * L ∧ s * L ≤ 61440 := by
  refine ⟨Int.mul_nonneg h0 l0, ?_⟩
  have h2 : s * L ≤ 15 * L := Int.mul_le_mul_of_nonneg_right h1 l0
  omega
theorem mul_round {r R : Int} (h0 : 0 ≤ r) (hR : 1 ≤ R) (h1 : r ≤ 1099511627776 / R) : 0 ≤ r * R ∧ r * R ≤ 1099511627776 :=
  ⟨Int.mul_nonneg h0 (by omega), (Int.le_ediv_iff_mul_le (by omega)).1 h1⟩

set_option maxRecDepth 100000 in
set_option maxHeartbeats 8000000 in
theorem age_any (p : Nat) (c : Cfg) (t : Tm) (w : World) (h : NetAt w p c) :
    Calls Tryd.prog 27 #[.pointer (some ⟨p, 0, none⟩), t.V] w fun e w' => e = .returned (.tuple #[.int .i64 (ageR c t), .int .i64 (ageE c t)]) ∧ Below w.heap.size w w' := by
  obtain ⟨r, sl, pl⟩ := t
  simp only [Tm.V]
  have hB := rb_of h.1
  have HON := Lib.hid (ownerE_neg h.1 sl)
  have HR := Lib.hid fun (W : World) (hb : Below w.heap.size w W) => round_any' p c W (h.below hb)
  have HL := Lib.hid fun (W : World) (hb : Below w.heap.size w W) => long_any p c W (h.below hb)
  have HW := Lib.hid fun (W : World) (hb : Below w.heap.size w W) => owner_any p c sl W (h.below hb)
  obtain ⟨hE, g, A1, A2, A3, A4, k0, _⟩ := h
  have HK := Lib.hid k0
  have HBAD : Hid (¬ ageOk c ⟨r, sl, pl⟩ → ageR c ⟨r, sl, pl⟩ = 0 ∧ ageE c ⟨r, sl, pl⟩ = 1) := Lib.hid fun h => ⟨by rw [ageR, if_neg h], by rw [ageE, if_neg h]⟩
  have HOK : Hid (∀ M R L : Int, (c.slots.length : Int) = M → roundT c = R → c.long = L → (ageOk c ⟨r, sl, pl⟩ ↔ (0 ≤ r ∧ r ≤ 1099511627776 / R ∧ (0 ≤ sl ∧ sl < M) ∧ 0 ≤ pl ∧ pl < L ∧ r * R + sl * L + pl ≤ 1099511627776))) := Lib.hid (by rintro M R L rfl rfl rfl; rfl)
  have HVAL : Hid (∀ R L : Int, roundT c = R → c.long = L → ageV c ⟨r, sl, pl⟩ = r * R + sl * L + pl) := Lib.hid (by rintro R L rfl rfl; rfl)
  clear k0 hE
  obtain ⟨m0, m1, l0, l1, r0, r1, rl⟩ := hB
  obtain ⟨M, eM⟩ : ∃ M : Nat, c.slots.length = M := ⟨_, rfl⟩
  obtain ⟨R, eR⟩ : ∃ R, roundT c = R := ⟨_, rfl⟩
  obtain ⟨L, eL⟩ : ∃ L, c.long = L := ⟨_, rfl⟩
  obtain ⟨O, eO⟩ : ∃ O, ownerE c sl = O := ⟨_, rfl⟩
  have hok := HOK.out M R L (by rw [eM]) eR eL
  have hval := HVAL.out R L eR eL
  have hown := HON.out
  rw [eO, eM] at hown
  rw [eR] at HR r0 r1 rl
  rw [eL] at HL HK l0 l1 rl
  rw [eO] at HW
  rw [eM] at m0 m1
  clear eR eL HOK HVAL HON eO eM
  have HOK := Lib.hid hok
  have HVAL := Lib.hid hval
  have HOWN := Lib.hid hown
  clear hok hval hown
  have hRn : (R == 0) = false := by simp; omega
  have hR0 : ¬ R = 0 := by omega
  obtain ⟨Q, eQ⟩ : ∃ Q, 1099511627776 / R = Q := ⟨_, rfl⟩
  have gQ := (IntWalk.i64_quo 1099511627776 R ⟨by omega, by omega, by omega⟩).trans eQ
  have EQ := Lib.hid eQ
  clear eQ
  go_enter Tryd.func27, Tryd.ntmps27
  go_wp2_with fail
  go_at_call 52
  refine (HR.out _ (ba _ _)).mono ?_
  rintro e w1 ⟨rfl, q, rfl⟩
  go_wp2_with fail
  refine gen_wp (fun V => Hid (Blk V w.heap.size 64 #[.int .i64 r, .int .i64 sl, .int .i64 pl]) ∧ Hid (Below w.heap.size w V)) ⟨Lib.hid (Blk.new_ w _ _ rfl), Lib.hid (below_drewN (ba _ _) _)⟩ ?_
  rintro V ⟨KV, HV⟩
  have T2 : ∀ x : Grow V, (x.w.cell? ⟨w.heap.size, 0, none⟩ = some (.int .i64 r) ∧ x.w.cell? ⟨w.heap.size, 1, none⟩ = some (.int .i64 sl) ∧ x.w.cell? ⟨w.heap.size, 2, none⟩ = some (.int .i64 pl)) ∧ x.w.cell? ⟨p, 3, none⟩ = some (.int .i64 L) :=
    fun x => ⟨box3 (x.blk KV.out), x.cell ((HK.out.below HV.out).cell 3)⟩
  have hpl : ∀ x : Grow V, p < x.w.heap.size := fun x => Nat.lt_of_lt_of_le (HK.out.below HV.out).lt x.h.size
  by_cases c1 : r < 0
  · have d1 : decide (r < 0) = true := by simpa using c1
    refine wp_region_grow (by kernel_rfl) (by kernel_rfl) ?_
    repeat (go_big_quiet_step ((go_at_call 55; exact Grow.same _ (HW.out _ (by exact HV.out.trans (Below.mono (Grow.h _) HV.out.size))))))
    refine wpQuiet_nil ?_
    rintro w4 hx4
    have hb4 := grow_of hx4
    clear hx4
    go_wp2_with fail
    go_ret2
    obtain ⟨v1, v2⟩ := HBAD.out (fun h => by have h := HOK.out.1 h; omega)
    exact ⟨by rw [v1, v2]; rfl, Below.then_ HV.out hb4⟩
  have d1 : decide (r < 0) = false := by simpa using c1
  by_cases c2 : Q < r
  · have d2 : decide (Q < r) = true := by simpa using c2
    refine wp_region_grow (by kernel_rfl) (by kernel_rfl) ?_
    repeat (go_big_quiet_step ((go_at_call 55; exact Grow.same _ (HW.out _ (by exact HV.out.trans (Below.mono (Grow.h _) HV.out.size))))))
    refine wpQuiet_nil ?_
    rintro w4 hx4
    have hb4 := grow_of hx4
    clear hx4
    go_wp2_with fail
    go_ret2
    obtain ⟨v1, v2⟩ := HBAD.out (fun h => by have h := HOK.out.1 h; rw [EQ.out] at h; omega)
    exact ⟨by rw [v1, v2]; rfl, Below.then_ HV.out hb4⟩
  have d2 : decide (Q < r) = false := by simpa using c2
  by_cases c3 : O < 0
  · have d3 : decide (O < 0) = true := by simpa using c3
    have h3 := HOWN.out.1 c3
    refine wp_region_grow (by kernel_rfl) (by kernel_rfl) ?_
    repeat (go_big_quiet_step ((go_at_call 55; exact Grow.same _ (HW.out _ (by exact HV.out.trans (Below.mono (Grow.h _) HV.out.size))))))
    refine wpQuiet_nil ?_
    rintro w4 hx4
    have hb4 := grow_of hx4
    clear hx4
    go_wp2_with fail
    go_ret2
    obtain ⟨v1, v2⟩ := HBAD.out (fun h => by have h := HOK.out.1 h; omega)
    exact ⟨by rw [v1, v2]; rfl, Below.then_ HV.out hb4⟩
  have d3 : decide (O < 0) = false := by simpa using c3
  have h3 : 0 ≤ sl ∧ sl < M := by
    have := HOWN.out
    omega
  obtain ⟨h3a, h3b⟩ := h3
  by_cases c4 : pl < 0
  · have d4 : decide (pl < 0) = true := by simpa using c4
    refine wp_region_grow (by kernel_rfl) (by kernel_rfl) ?_
    repeat (go_big_quiet_step ((go_at_call 55; exact Grow.same _ (HW.out _ (by exact HV.out.trans (Below.mono (Grow.h _) HV.out.size))))))
    refine wpQuiet_nil ?_
    rintro w4 hx4
    have hb4 := grow_of hx4
    clear hx4
    go_wp2_with fail
    go_ret2
    obtain ⟨v1, v2⟩ := HBAD.out (fun h => by have h := HOK.out.1 h; omega)
    exact ⟨by rw [v1, v2]; rfl, Below.then_ HV.out hb4⟩
  have d4 : decide (pl < 0) = false := by simpa using c4
  by_cases c5 : L ≤ pl
  · have d5 : decide (L ≤ pl) = true := by simpa using c5
    refine wp_region_grow (by kernel_rfl) (by kernel_rfl) ?_
    repeat (go_big_quiet_step ((go_at_call 55; exact Grow.same _ (HW.out _ (by exact HV.out.trans (Below.mono (Grow.h _) HV.out.size))))))
    refine wpQuiet_nil ?_
    rintro w4 hx4
    have hb4 := grow_of hx4
    clear hx4
    go_wp2_with fail
    go_ret2
    obtain ⟨v1, v2⟩ := HBAD.out (fun h => by have h := HOK.out.1 h; omega)
    exact ⟨by rw [v1, v2]; rfl, Below.then_ HV.out hb4⟩
  have d5 : decide (L ≤ pl) = false := by simpa using c5
  refine wp_region_grow (by kernel_rfl) (by kernel_rfl) ?_
  repeat (go_big_quiet_step ((go_at_call 55; exact Grow.same _ (HW.out _ (by exact HV.out.trans (Below.mono (Grow.h _) HV.out.size))))))
  refine wpQuiet_nil ?_
  rintro w4 hx4
  have hb4 := grow_of hx4
  clear hx4
  have hQr : r ≤ 1099511627776 / R := by rw [EQ.out]; omega
  have b1 := mul_round (by omega : 0 ≤ r) (by omega : 1 ≤ R) hQr
  have b2 := mul_small h3a (by omega : sl ≤ 15) (by omega : 0 ≤ L) l1
  obtain ⟨X1, e1⟩ : ∃ X, r * R = X := ⟨_, rfl⟩
  obtain ⟨X2, e2⟩ : ∃ X, sl * L = X := ⟨_, rfl⟩
  obtain ⟨X3, e3⟩ : ∃ X, X1 + X2 = X := ⟨_, rfl⟩
  obtain ⟨X, e4⟩ : ∃ X, X3 + pl = X := ⟨_, rfl⟩
  rw [e1] at b1
  rw [e2] at b2
  have g1 : IntKind.i64.wrap (r * R) = X1 := by rw [e1]; exact wrap_small (by omega) (by omega)
  have g2 : IntKind.i64.wrap (sl * L) = X2 := by rw [e2]; exact wrap_small (by omega) (by omega)
  have g3 : IntKind.i64.wrap (X1 + X2) = X3 := by rw [e3]; exact wrap_small (by omega) (by omega)
  have g4 : IntKind.i64.wrap (X3 + pl) = X := by rw [e4]; exact wrap_small (by omega) (by omega)
  have HX : Hid (r * R + sl * L + pl = X) := Lib.hid (by rw [e1, e2, e3, e4])
  clear e1 e2 e3 e4 hQr T2 hpl
  have T3 : ∀ x : Grow w4, x.w.cell? ⟨w.heap.size, 0, none⟩ = some (.int .i64 r) ∧ x.w.cell? ⟨w.heap.size, 1, none⟩ = some (.int .i64 sl) ∧ x.w.cell? ⟨w.heap.size, 2, none⟩ = some (.int .i64 pl) :=
    fun x => box3 (x.blk (KV.out.below hb4))
  have HV4 := Lib.hid (Below.then_ HV.out hb4)
  clear hb4
  go_wp2_with fail
  refine wp_region_grow (by kernel_rfl) (by kernel_rfl) ?_
  repeat (go_big_quiet_step ((go_at_call 53; exact Grow.same _ (HL.out _ (by exact HV4.out.trans (Below.mono (Grow.h _) HV4.out.size))))))
  refine wpQuiet_nil ?_
  rintro w5 hx5
  have hb5 := grow_of hx5
  clear hx5
  by_cases c6 : 1099511627776 < X
  · go_wp2_with fail
    go_ret2
    obtain ⟨v1, v2⟩ := HBAD.out (fun h => by have h := HOK.out.1 h; rw [HX.out] at h; omega)
    exact ⟨by rw [v1, v2]; rfl, Below.then_ HV4.out hb5⟩
  · go_wp2_with fail
    go_ret2
    have hgood : ageOk c ⟨r, sl, pl⟩ := HOK.out.2 (by rw [EQ.out, HX.out]; omega)
    exact ⟨by rw [ageR, ageE, if_pos hgood, if_pos hgood, HVAL.out, HX.out]; rfl, Below.then_ HV4.out hb5⟩

/-- How many slots were ahead. -/
def aheadE (c : Cfg) (t : Tm) : Int := if ageOk c t then t.round * c.slots.length + t.slot else -1
set_option maxRecDepth 100000 in
set_option maxHeartbeats 4000000 in
theorem ahead_any (p : Nat) (c : Cfg) (t : Tm) (w : World) (h : NetAt w p c) :
    Calls Tryd.prog 30 #[.pointer (some ⟨p, 0, none⟩), t.V] w fun e w' => e = .returned (.int .i64 (aheadE c t)) ∧ Below w.heap.size w w' := by
  obtain ⟨r, sl, pl⟩ := t
  simp only [Tm.V]
  have hB := rb_of h.1
  have HA := Lib.hid (age_any p c ⟨r, sl, pl⟩ (w.alloc (.cells #[.int .i64 r, .int .i64 sl, .int .i64 pl] 64)) (h.below (ba _ _)))
  obtain ⟨hE, g, A1, A2, A3, A4, k0, _⟩ := h
  have HK := Lib.hid k0
  clear k0 hE
  obtain ⟨m0, m1, l0, l1, r0, r1, rl⟩ := hB
  by_cases hok : ageOk c ⟨r, sl, pl⟩
  · have HV : Hid (aheadE c ⟨r, sl, pl⟩ = r * c.slots.length + sl) := Lib.hid (by rw [aheadE, if_pos hok])
    obtain ⟨V, hv⟩ : ∃ V, ageR c ⟨r, sl, pl⟩ = V := ⟨_, rfl⟩
    rw [hv, ageE, if_pos hok] at HA
    obtain ⟨o1, o2, ⟨o3, o4⟩, _, _, _⟩ := hok
    have b1 := mul_round o1 (by omega : 1 ≤ roundT c) o2
    dsimp only at o1 o3 o4 b1
    obtain ⟨M, eM⟩ : ∃ M : Nat, c.slots.length = M := ⟨_, rfl⟩
    have b2 : 0 ≤ r * (M : Int) ∧ r * (M : Int) ≤ 1099511627776 := by
      rw [← eM]
      refine ⟨Int.mul_nonneg o1 (by omega), ?_⟩
      have : r * (c.slots.length : Int) ≤ r * roundT c := Int.mul_le_mul_of_nonneg_left (by omega) o1
      omega
    rw [eM] at HV HK o4 m0 m1
    obtain ⟨X1, e1⟩ : ∃ X, r * (M : Int) = X := ⟨_, rfl⟩
    obtain ⟨X, e2⟩ : ∃ X, X1 + sl = X := ⟨_, rfl⟩
    rw [e1] at b2
    have g1 : IntKind.i64.wrap (r * (M : Int)) = X1 := by rw [e1]; exact wrap_small (by omega) (by omega)
    have g2 : IntKind.i64.wrap (X1 + sl) = X := by rw [e2]; exact wrap_small (by omega) (by omega)
    have HX : Hid (r * (M : Int) + sl = X) := Lib.hid (by rw [e1, e2])
    clear hv e1 e2 eM b1 o2
    go_enter Tryd.func30, Tryd.ntmps30
    go_wp2_with fail
    go_at_call 27
    refine (HA.out).mono ?_
    rintro e w1 ⟨rfl, hb1⟩
    have kt := (Blk.new_ w 64 #[.int .i64 r, .int .i64 sl, .int .i64 pl] rfl).below hb1
    obtain ⟨y0, y1, y2⟩ := box3 kt
    have kn := (HK.out.below (ba _ _)).below hb1
    have n2 := kn.cell 2
    simp at n2
    have hln := kn.lt
    have hlt := kt.lt
    have HB := Lib.hid (Below.then_ (ba _ _) hb1)
    clear kt kn hb1
    go_wp2_with fail
    go_quiet (fail)
    rename_i nq
    go_wp2_with fail
    go_ret
    exact ⟨by rw [HV.out, HX.out]; rfl, below_drewN HB.out _⟩
  · have HV : Hid (aheadE c ⟨r, sl, pl⟩ = -1) := Lib.hid (by rw [aheadE, if_neg hok])
    rw [ageR, ageE, if_neg hok, if_neg hok] at HA
    clear hok
    go_enter Tryd.func30, Tryd.ntmps30
    go_wp2_with fail
    go_at_call 27
    refine (HA.out).mono ?_
    rintro e w1 ⟨rfl, hb1⟩
    go_wp2_with fail
    go_ret
    exact ⟨by rw [HV.out]; rfl, Below.then_ (ba _ _) hb1⟩
end Go.Proofs.YtmpkpikamogpdaaDoor.K
