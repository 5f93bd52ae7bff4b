/- sennitref06: the document's answer on times and ages; sennitlaw06.Same. -/
import Derived.Test.YtmpkpikamogpdaaDoorClk6
namespace Go.Proofs.YtmpkpikamogpdaaDoor.K
open Go.RowKit

theorem wrap64_small {x : Int} (h : -9223372036854775808 ≤ x) (h' : x ≤ 9223372036854775807) : wrap64 x = x := by
  unfold wrap64
  omega

set_option maxHeartbeats 1000000 in
theorem same6_any (t : Tm) (w : World) :
    Calls Tryd.prog 29 #[.agg #[.int .i64 t.round, .int .i64 t.slot, .int .i64 t.place], .agg #[.int .i64 t.round, .int .i64 t.slot, .int .i64 t.place]] w fun e w' => e = .returned (.bool true) ∧ Below w.heap.size w w' := by
  obtain ⟨r, s, p⟩ := t
  go_enter Tryd.func29, Tryd.ntmps29
  go_wp2
  go_ret
  exact ⟨rfl, Below.allocW (ba _ _) _⟩

set_option maxHeartbeats 1000000 in
theorem refRound_any (n : Int) (A1 : Option Addr) (c1 : Nat) (ps : List Int) (A2 : Option Addr) (c2 : Nat) (ss : List Int) (long : Int) (A3 : Option Addr) (c3 : Nat) (bs : List Int) (A4 : Option Addr) (c4 : Nat) (st : List Stn) (miss good fresh : Int) (w : World) (hb : newE ⟨n, ps, ss, long, bs, st, miss, good, fresh⟩ = 0) :
    Calls Tryd.prog 54 #[(.agg #[.int .i64 n, .slice A1 ps.length c1, .slice A2 ss.length c2, .int .i64 long, .slice A3 bs.length c3, .slice A4 st.length c4, .int .i64 miss, .int .i64 good, .int .i64 fresh])] w fun e w' => e = .returned (.int .i64 (roundT ⟨n, ps, ss, long, bs, st, miss, good, fresh⟩)) ∧ Below w.heap.size w w' := by
  have hB := rb_of hb
  obtain ⟨R, eR⟩ : ∃ R, roundT ⟨n, ps, ss, long, bs, st, miss, good, fresh⟩ = R := ⟨_, rfl⟩
  have e : (ss.length : Int) * long = R := eR
  have r0 := hB.r0
  have r1 := hB.r1
  rw [eR] at r0 r1 ⊢
  have g1 : wrap64 ((ss.length : Int) * long) = R := by rw [e]; exact wrap64_small (by omega) (by omega)
  have g2 : IntKind.i64.wrap ((ss.length : Int) * long) = R := by rw [e]; exact wrap_small (by omega) (by omega)
  clear hB eR e hb
  go_enter Tryd.func54, Tryd.ntmps54
  go_wp2
  go_ret
  exact ⟨rfl, ba _ _⟩

set_option maxRecDepth 100000 in
set_option maxHeartbeats 8000000 in
theorem refOf_any (n : Int) (A1 : Option Addr) (c1 : Nat) (ps : List Int) (A2 : Option Addr) (c2 : Nat) (ss : List Int) (long : Int) (A3 : Option Addr) (c3 : Nat) (bs : List Int) (A4 : Option Addr) (c4 : Nat) (st : List Stn) (miss good fresh : Int) (age : Int) (w : World) (hb : newE ⟨n, ps, ss, long, bs, st, miss, good, fresh⟩ = 0) :
    Calls Tryd.prog 26 #[(.agg #[.int .i64 n, .slice A1 ps.length c1, .slice A2 ss.length c2, .int .i64 long, .slice A3 bs.length c3, .slice A4 st.length c4, .int .i64 miss, .int .i64 good, .int .i64 fresh]), .int .i64 age] w fun e w' => e = .returned (.tuple #[(tOf ⟨n, ps, ss, long, bs, st, miss, good, fresh⟩ age).V, .int .i64 (eOf age)]) ∧ Below w.heap.size w w' := by
  have hB := rb_of hb
  have HR := Lib.hid fun (W : World) => refRound_any n A1 c1 ps A2 c2 ss long A3 c3 bs A4 c4 st miss good fresh W hb
  have HT : Hid (∀ R : Int, roundT ⟨n, ps, ss, long, bs, st, miss, good, fresh⟩ = R → ¬ outB age → tOf ⟨n, ps, ss, long, bs, st, miss, good, fresh⟩ age = ⟨age / R, age % R / long, age % R % long⟩) := Lib.hid (by rintro R rfl h; rw [tOf, if_neg h])
  have HTO : Hid (outB age → tOf ⟨n, ps, ss, long, bs, st, miss, good, fresh⟩ age = ⟨0, 0, 0⟩) := Lib.hid fun h => by rw [tOf, if_pos h]
  obtain ⟨m0, m1, l0, l1, r0, r1, rl⟩ := hB
  obtain ⟨t, et⟩ : ∃ t, tOf ⟨n, ps, ss, long, bs, st, miss, good, fresh⟩ age = t := ⟨_, rfl⟩
  rw [et] at HT HTO ⊢
  dsimp only at l0 l1 rl
  obtain ⟨R, eR⟩ : ∃ R, roundT ⟨n, ps, ss, long, bs, st, miss, good, fresh⟩ = R := ⟨_, rfl⟩
  have ht := HT.out R eR
  rw [eR] at HR r0 r1 rl
  clear et eR hb HT
  have HT := Lib.hid ht
  clear ht
  have FR : Hid True := Lib.hid trivial
  by_cases h0 : age < 0
  · have HO : Hid (outB age) := Lib.hid (.inl h0)
    go_enter Tryd.func26, Tryd.ntmps26
    go_wp2_with fail
    refine bodyPost_ret (v := .tuple #[.agg #[.int .i64 0, .int .i64 0, .int .i64 0], .int .i64 1]) (by simp [results, Tryd.results26, go_sem]) rfl ⟨?_, ?_⟩
    · rw [HTO.out HO.out, eOf, if_pos HO.out]; rfl
    · repeat (first | (with_reducible exact ba _ _) | (with_reducible refine below_drewN ?_ _) | (with_reducible refine Below.setCell ?_ (by simp) _) | (with_reducible refine Below.allocW ?_ _))
  by_cases h1 : 1099511627776 < age
  · have HO : Hid (outB age) := Lib.hid (.inr h1)
    go_enter Tryd.func26, Tryd.ntmps26
    go_wp2_with fail
    refine bodyPost_ret (v := .tuple #[.agg #[.int .i64 0, .int .i64 0, .int .i64 0], .int .i64 1]) (by simp [results, Tryd.results26, go_sem]) rfl ⟨?_, ?_⟩
    · rw [HTO.out HO.out, eOf, if_pos HO.out]; rfl
    · repeat (first | (with_reducible exact ba _ _) | (with_reducible refine below_drewN ?_ _) | (with_reducible refine Below.setCell ?_ (by simp) _) | (with_reducible refine Below.allocW ?_ _))
  have HO : Hid (¬ outB age) := Lib.hid (fun h => by rcases h with h | h <;> omega)
  obtain ⟨Q, eQ⟩ : ∃ Q, age / R = Q := ⟨_, rfl⟩
  obtain ⟨F, eF⟩ : ∃ F, age % R = F := ⟨_, rfl⟩
  have hF0 : 0 ≤ F := by rw [← eF]; exact Int.emod_nonneg _ (by omega)
  have hF1 : F < R := by rw [← eF]; exact Int.emod_lt_of_pos _ (by omega)
  have hQ0 : 0 ≤ Q := by rw [← eQ]; exact Int.ediv_nonneg (by omega) (by omega)
  have hQR : R * Q + F = age := by rw [← eQ, ← eF]; exact Int.mul_ediv_add_emod age R
  obtain ⟨X, eX⟩ : ∃ X, Q * R = X := ⟨_, rfl⟩
  have hX : X = age - F := by rw [← eX, Int.mul_comm]; omega
  have g1 : IntKind.i64.wrap (Q * R) = X := by rw [eX]; exact wrap_small (by omega) (by omega)
  have g2 : IntKind.i64.wrap (age - X) = F := by rw [show age - X = F by omega]; exact wrap_small (by omega) (by omega)
  have HVT : Hid (∀ k l : Int, F = l + long * k → 0 ≤ l → l < long → t = ⟨Q, k, l⟩) := Lib.hid fun k l h a b => by
    rw [HT.out HO.out, eQ, eF, h, Int.add_mul_ediv_left _ _ (by omega), Int.ediv_eq_zero_of_lt a b, Int.zero_add, Int.add_mul_emod_self_left, Int.emod_eq_of_lt a b]
  have hR0 : ¬ R = 0 := by omega
  have EX := Lib.hid hX
  clear eX eF hQR HT HTO hX
  have EQ := Lib.hid eQ
  clear eQ
  go_enter Tryd.func26, Tryd.ntmps26
  go_wp2_with fail
  go_at_call 54
  refine (HR.out _).mono ?_
  rintro e w1 ⟨rfl, hb1⟩
  have HB1 := Lib.hid hb1
  have k1 := ((Blk.new_ w 44 #[.int .i64 n, .slice A1 ps.length c1, .slice A2 ss.length c2, .int .i64 long, .slice A3 bs.length c3, .slice A4 st.length c4, .int .i64 miss, .int .i64 good, .int .i64 fresh] rfl).alloc (.cells #[.int .i64 0, .int .i64 0, .int .i64 0] 66)).below hb1
  have kz := (Blk.new_ (w.alloc (.cells #[.int .i64 n, .slice A1 ps.length c1, .slice A2 ss.length c2, .int .i64 long, .slice A3 bs.length c3, .slice A4 st.length c4, .int .i64 miss, .int .i64 good, .int .i64 fresh] 44)) 66 #[.int .i64 0, .int .i64 0, .int .i64 0] (g := w.heap.size + 1) (by simp)).below hb1
  obtain ⟨q0, q1, q2, q3, q4, q5, q6, q7, q8⟩ := box9 k1
  have hl1 := k1.lt
  have hl2 := kz.lt
  have K1 := Lib.hid k1
  have KZ := Lib.hid kz
  clear k1 kz hb1
  have gQ := (IntWalk.i64_quo age R ⟨by omega, by omega, by omega⟩)
  go_wp2_with fail
  rw [EQ.out]
  refine gen_wp (fun V => Hid (Blk V w.heap.size 44 #[.int .i64 n, .slice A1 ps.length c1, .slice A2 ss.length c2, .int .i64 long, .slice A3 bs.length c3, .slice A4 st.length c4, .int .i64 miss, .int .i64 good, .int .i64 fresh]) ∧ Hid (Blk V (w.heap.size + 1) 66 #[.int .i64 0, .int .i64 0, .int .i64 0]) ∧ Hid (Blk V w1.heap.size 66 #[.int .i64 Q, .int .i64 0, .int .i64 0]) ∧ Hid (Below w.heap.size w V)) ⟨Lib.hid (K1.out.alloc _), Lib.hid (KZ.out.alloc _), Lib.hid (Blk.new_ w1 _ _ rfl), Lib.hid (Below.allocW (Below.then_ (Below.allocW (ba _ _) _) HB1.out) _)⟩ ?_
  obtain ⟨T, eT⟩ : ∃ T, w1.heap.size = T := ⟨_, rfl⟩
  have hT : w.heap.size + 1 < T := by omega
  rw [eT]
  clear q0 q1 q2 q3 q4 q5 q6 q7 q8 hl1 hl2 K1 KZ HB1 eT
  rintro V ⟨KC, KZ, KT, HV⟩
  obtain ⟨q0, q1, q2, q3, q4, q5, q6, q7, q8⟩ := box9 KC.out
  obtain ⟨t0, t1, t2⟩ := box3 KT.out
  have T2 : ∀ x : Grow V, (x.w.cell? ⟨w.heap.size, 0, none⟩ = some (.int .i64 n) ∧ x.w.cell? ⟨w.heap.size, 1, none⟩ = some (.slice A1 ps.length c1) ∧ x.w.cell? ⟨w.heap.size, 2, none⟩ = some (.slice A2 ss.length c2) ∧ x.w.cell? ⟨w.heap.size, 3, none⟩ = some (.int .i64 long) ∧ x.w.cell? ⟨w.heap.size, 4, none⟩ = some (.slice A3 bs.length c3) ∧ x.w.cell? ⟨w.heap.size, 5, none⟩ = some (.slice A4 st.length c4) ∧ x.w.cell? ⟨w.heap.size, 6, none⟩ = some (.int .i64 miss) ∧ x.w.cell? ⟨w.heap.size, 7, none⟩ = some (.int .i64 good) ∧ x.w.cell? ⟨w.heap.size, 8, none⟩ = some (.int .i64 fresh)) ∧ x.w.cell? ⟨T, 0, none⟩ = some (.int .i64 Q) :=
    fun x => ⟨box9 (x.blk KC.out), x.cell t0⟩
  refine wp_region_grow (by kernel_rfl) (by kernel_rfl) ?_
  repeat (go_big_quiet_step ((go_at_call 54; exact Grow.call _ (HR.out _))))
  refine wpQuiet_nil ?_
  rintro w2 hx2
  have hb2 := grow_of hx2
  clear hx2 T2 q0 q1 q2 q3 q4 q5 q6 q7 q8 t0 t1 t2
  have KC2 := Lib.hid (KC.out.below hb2)
  have KZ2 := Lib.hid (KZ.out.below hb2)
  have KT2 := Lib.hid (KT.out.below hb2)
  have HV2 := Lib.hid (Below.then_ HV.out hb2)
  clear hb2 KC KZ KT HV g1 g2
  go_wp2_with fail
  go_loopw [7] (fun v wr => ∃ (k : Nat) (l : Int), v = .int .i64 l ∧ 0 ≤ l ∧ (k : Int) + l ≤ F ∧ Hid (F = l + long * k) ∧ Hid (Blk wr w.heap.size 44 #[.int .i64 n, .slice A1 ps.length c1, .slice A2 ss.length c2, .int .i64 long, .slice A3 bs.length c3, .slice A4 st.length c4, .int .i64 miss, .int .i64 good, .int .i64 fresh]) ∧ Hid (Blk wr (w.heap.size + 1) 66 #[.int .i64 0, .int .i64 0, .int .i64 0]) ∧ Hid (Blk wr T 66 #[.int .i64 Q, .int .i64 k, .int .i64 0]) ∧ Hid (Below w.heap.size w wr)) (fun v _ => (intOf v).toNat)
  case atStart => exact ⟨0, F, rfl, hF0, by omega, Lib.hid (by simp), KC2, KZ2, KT2, HV2⟩
  case round =>
    obtain ⟨k, l, rfl, hl0, hkl, HF, KC3, KZ3, KT3, HB3⟩ := hrel
    obtain ⟨q0, q1, q2, q3, q4, q5, q6, q7, q8⟩ := box9 KC3.out
    obtain ⟨t0, t1, t2⟩ := box3 KT3.out
    have f0 := KT3.out.frozen 0
    have f1 := KT3.out.frozen 1
    have f2 := KT3.out.frozen 2
    have hlT := KT3.out.lt
    by_cases hge : long ≤ l
    · go_wp2_with fail
      go_roundw
      case rel =>
        refine ⟨k + 1, l - long, by first | rfl | go_num, by omega, by omega, Lib.hid (by rw [HF.out]; have : long * ((k + 1 : Nat) : Int) = long * k + long := by rw [Int.natCast_add, Int.mul_add]; simp
                                                                                          omega), ?_, ?_, ?_, ?_⟩
        · exact Lib.hid (KC3.out.far (by dsimp only; omega) _)
        · exact Lib.hid (KZ3.out.far (by dsimp only; omega) _)
        · exact Lib.hid (by have h1 := KT3.out.set_ 1 (.int .i64 ((k : Int) + 1)); simpa using h1)
        · exact Lib.hid (HB3.out.setCell (by dsimp only; omega) _)
      case measure => simp [intOf]; omega
    · have z0 := KZ3.out.frozen 0
      have z1 := KZ3.out.frozen 1
      have z2 := KZ3.out.frozen 2
      obtain ⟨y0, y1, y2⟩ := box3 KZ3.out
      have hlZ := KZ3.out.lt
      go_wp2_with fail
      refine bodyPost_ret (v := .tuple #[.agg #[.int .i64 Q, .int .i64 k, .int .i64 l], .int .i64 0]) (by simp [results, Tryd.results26, go_sem, y0, y1, y2]) rfl ⟨?_, ?_⟩
      · rw [HVT.out k l HF.out hl0 (by omega), eOf, if_neg HO.out]; rfl
      · repeat (first | (with_reducible exact HB3.out) | (with_reducible refine Below.setCell ?_ (by dsimp only; omega) _))
end Go.Proofs.YtmpkpikamogpdaaDoor.K
