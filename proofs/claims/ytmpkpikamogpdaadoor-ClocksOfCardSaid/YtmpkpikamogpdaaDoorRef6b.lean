/- sennitref06.Age, Ahead. -/
import Derived.Test.YtmpkpikamogpdaaDoorRef6
namespace Go.Proofs.YtmpkpikamogpdaaDoor.K
open Go.RowKit

set_option maxRecDepth 100000 in
set_option maxHeartbeats 8000000 in
theorem refAge_any (n : Int) (A1 : Option Addr) (c1 : Nat) (ps : List Int) (A2 : Option Addr) (c2 : Nat) (ss : List Int) (long : Int) (A3 : Option Addr) (c3 : Nat) (bs : List Int) (A4 : Option Addr) (c4 : Nat) (st : List Stn) (miss good fresh : Int) (t : Tm) (w : World) (hb : newE ⟨n, ps, ss, long, bs, st, miss, good, fresh⟩ = 0) :
    Calls Tryd.prog 28 #[(.agg #[.int .i64 n, .slice A1 ps.length c1, .slice A2 ss.length c2, .int .i64 long, .slice A3 bs.length c3, .slice A4 st.length c4, .int .i64 miss, .int .i64 good, .int .i64 fresh]), t.V] w fun e w' => e = .returned (.tuple #[.int .i64 (ageR ⟨n, ps, ss, long, bs, st, miss, good, fresh⟩ t), .int .i64 (ageE ⟨n, ps, ss, long, bs, st, miss, good, fresh⟩ t)]) ∧ Below w.heap.size w w' := by
  obtain ⟨r, sl, pl⟩ := t
  simp only [Tm.V]
  have hB := rb_of hb
  have HR := Lib.hid fun (W : World) => refRound_any n A1 c1 ps A2 c2 ss long A3 c3 bs A4 c4 st miss good fresh W hb
  have HBAD : Hid (¬ ageOk ⟨n, ps, ss, long, bs, st, miss, good, fresh⟩ ⟨r, sl, pl⟩ → ageR ⟨n, ps, ss, long, bs, st, miss, good, fresh⟩ ⟨r, sl, pl⟩ = 0 ∧ ageE ⟨n, ps, ss, long, bs, st, miss, good, fresh⟩ ⟨r, sl, pl⟩ = 1) := Lib.hid fun h => ⟨by rw [ageR, if_neg h], by rw [ageE, if_neg h]⟩
  have HOK : Hid (∀ R : Int, roundT ⟨n, ps, ss, long, bs, st, miss, good, fresh⟩ = R → (ageOk ⟨n, ps, ss, long, bs, st, miss, good, fresh⟩ ⟨r, sl, pl⟩ ↔ (0 ≤ r ∧ r ≤ 1099511627776 / R ∧ (0 ≤ sl ∧ sl < ss.length) ∧ 0 ≤ pl ∧ pl < long ∧ r * R + sl * long + pl ≤ 1099511627776))) := Lib.hid (by rintro R rfl; rfl)
  have HVAL : Hid (∀ R : Int, roundT ⟨n, ps, ss, long, bs, st, miss, good, fresh⟩ = R → ageV ⟨n, ps, ss, long, bs, st, miss, good, fresh⟩ ⟨r, sl, pl⟩ = r * R + sl * long + pl) := Lib.hid (by rintro R rfl; rfl)
  obtain ⟨m0, m1, l0, l1, r0, r1, rl⟩ := hB
  dsimp only at m0 m1 l0 l1 rl
  obtain ⟨R, eR⟩ : ∃ R, roundT ⟨n, ps, ss, long, bs, st, miss, good, fresh⟩ = R := ⟨_, rfl⟩
  have hok := HOK.out R eR
  have hval := HVAL.out R eR
  rw [eR] at HR r0 r1 rl
  clear eR HOK HVAL hb
  have HOK := Lib.hid hok
  have HVAL := Lib.hid hval
  clear hok hval
  by_cases cc1 : r < 0
  · go_enter Tryd.func28, Tryd.ntmps28
    go_wp2
    go_ret2
    obtain ⟨v1, v2⟩ := HBAD.out (fun h => by have h := HOK.out.1 h; omega)
    exact ⟨by rw [v1, v2]; rfl, Below.allocW (ba _ _) _⟩
  by_cases cc2 : 1099511627776 < r
  · go_enter Tryd.func28, Tryd.ntmps28
    go_wp2
    go_ret2
    obtain ⟨v1, v2⟩ := HBAD.out (fun h => by
      have h := HOK.out.1 h
      have h2 : 1099511627776 / R ≤ 1099511627776 := Int.ediv_le_self _ (by omega)
      omega)
    exact ⟨by rw [v1, v2]; rfl, Below.allocW (ba _ _) _⟩
  by_cases cc3 : sl < 0
  · go_enter Tryd.func28, Tryd.ntmps28
    go_wp2
    go_ret2
    obtain ⟨v1, v2⟩ := HBAD.out (fun h => by have h := HOK.out.1 h; omega)
    exact ⟨by rw [v1, v2]; rfl, Below.allocW (ba _ _) _⟩
  by_cases cc4 : (ss.length : Int) ≤ sl
  · go_enter Tryd.func28, Tryd.ntmps28
    go_wp2
    go_ret2
    obtain ⟨v1, v2⟩ := HBAD.out (fun h => by have h := HOK.out.1 h; omega)
    exact ⟨by rw [v1, v2]; rfl, Below.allocW (ba _ _) _⟩
  by_cases cc5 : pl < 0
  · go_enter Tryd.func28, Tryd.ntmps28
    go_wp2
    go_ret2
    obtain ⟨v1, v2⟩ := HBAD.out (fun h => by have h := HOK.out.1 h; omega)
    exact ⟨by rw [v1, v2]; rfl, Below.allocW (ba _ _) _⟩
  by_cases cc6 : long ≤ pl
  · go_enter Tryd.func28, Tryd.ntmps28
    go_wp2
    go_ret2
    obtain ⟨v1, v2⟩ := HBAD.out (fun h => by have h := HOK.out.1 h; omega)
    exact ⟨by rw [v1, v2]; rfl, Below.allocW (ba _ _) _⟩
  have b1 : 0 ≤ r * R ∧ r * R ≤ 1099511627776 * 65536 := by
    refine ⟨Int.mul_nonneg (by omega) (by omega), ?_⟩
    have h1 : r * R ≤ 1099511627776 * R := Int.mul_le_mul_of_nonneg_right (by omega) (by omega)
    omega
  have b2 := mul_small (by omega : 0 ≤ sl) (by omega : sl ≤ 15) (by omega : 0 ≤ long) l1
  have HQ : Hid (r * R ≤ 1099511627776 → r ≤ 1099511627776 / R) := Lib.hid fun h => (Int.le_ediv_iff_mul_le (by omega)).2 h
  obtain ⟨X1, e1⟩ : ∃ X, r * R = X := ⟨_, rfl⟩
  obtain ⟨X2, e2⟩ : ∃ X, sl * long = X := ⟨_, rfl⟩
  obtain ⟨X3, e3⟩ : ∃ X, X2 + pl = X := ⟨_, rfl⟩
  obtain ⟨X, e4⟩ : ∃ X, X1 + X3 = X := ⟨_, rfl⟩
  rw [e1] at b1
  rw [e2] at b2
  have g1 : IntKind.i64.wrap (r * R) = X1 := by rw [e1]; exact wrap_small (by omega) (by omega)
  have g2 : IntKind.i64.wrap (sl * long) = X2 := by rw [e2]; exact wrap_small (by omega) (by omega)
  have g3 : IntKind.i64.wrap (X2 + pl) = X3 := by rw [e3]; exact wrap_small (by omega) (by omega)
  have g4 : IntKind.i64.wrap (X1 + X3) = X := by rw [e4]; exact wrap_small (by omega) (by omega)
  have HX : Hid (r * R + sl * long + pl = X ∧ r * R = X1 ∧ X1 ≤ X) := Lib.hid ⟨by rw [e1, e2]; omega, e1, by omega⟩
  clear e1 e2 e3 e4
  go_enter Tryd.func28, Tryd.ntmps28
  go_wp2_with fail
  refine gen_wp (fun V => Hid (Blk V w.heap.size 44 #[.int .i64 n, .slice A1 ps.length c1, .slice A2 ss.length c2, .int .i64 long, .slice A3 bs.length c3, .slice A4 st.length c4, .int .i64 miss, .int .i64 good, .int .i64 fresh]) ∧ Hid (Blk V (w.heap.size + 1) 66 #[.int .i64 r, .int .i64 sl, .int .i64 pl]) ∧ Hid (Below w.heap.size w V)) ⟨Lib.hid ((Blk.new_ w _ _ rfl).alloc _), Lib.hid (Blk.new_ (w.alloc _) _ _ (by simp)), Lib.hid (Below.allocW (ba _ _) _)⟩ ?_
  rintro V ⟨KC, KT, HV⟩
  have T2 : ∀ x : Grow V, (x.w.cell? ⟨w.heap.size, 0, none⟩ = some (.int .i64 n) ∧ x.w.cell? ⟨w.heap.size, 1, none⟩ = some (.slice A1 ps.length c1) ∧ x.w.cell? ⟨w.heap.size, 2, none⟩ = some (.slice A2 ss.length c2) ∧ x.w.cell? ⟨w.heap.size, 3, none⟩ = some (.int .i64 long) ∧ x.w.cell? ⟨w.heap.size, 4, none⟩ = some (.slice A3 bs.length c3) ∧ x.w.cell? ⟨w.heap.size, 5, none⟩ = some (.slice A4 st.length c4) ∧ x.w.cell? ⟨w.heap.size, 6, none⟩ = some (.int .i64 miss) ∧ x.w.cell? ⟨w.heap.size, 7, none⟩ = some (.int .i64 good) ∧ x.w.cell? ⟨w.heap.size, 8, none⟩ = some (.int .i64 fresh)) ∧ (x.w.cell? ⟨w.heap.size + 1, 0, none⟩ = some (.int .i64 r) ∧ x.w.cell? ⟨w.heap.size + 1, 1, none⟩ = some (.int .i64 sl) ∧ x.w.cell? ⟨w.heap.size + 1, 2, none⟩ = some (.int .i64 pl)) :=
    fun x => ⟨box9 (x.blk KC.out), box3 (x.blk KT.out)⟩
  refine wp_region_grow (by kernel_rfl) (by kernel_rfl) ?_
  repeat (go_big_quiet_step ((go_at_call 54; exact Grow.call _ (HR.out _))))
  refine wpQuiet_nil ?_
  rintro w2 hx2
  have hb2 := grow_of hx2
  clear hx2 T2
  by_cases cc7 : 1099511627776 < X
  · go_wp2_with fail
    go_ret2
    obtain ⟨v1, v2⟩ := HBAD.out (fun h => by have h := HOK.out.1 h; rw [HX.out.1] at h; omega)
    exact ⟨by rw [v1, v2]; rfl, Below.then_ HV.out hb2⟩
  · go_wp2_with fail
    go_ret2
    have hgood : ageOk ⟨n, ps, ss, long, bs, st, miss, good, fresh⟩ ⟨r, sl, pl⟩ := HOK.out.2 ⟨by omega, HQ.out (by have := HX.out.2; omega), by omega, by omega, by omega, by rw [HX.out.1]; omega⟩
    exact ⟨by rw [ageR, ageE, if_pos hgood, if_pos hgood, HVAL.out, HX.out.1]; rfl, Below.then_ HV.out hb2⟩

set_option maxRecDepth 100000 in
set_option maxHeartbeats 4000000 in
theorem refAhead_any (n : Int) (A1 : Option Addr) (c1 : Nat) (ps : List Int) (A2 : Option Addr) (c2 : Nat) (ss : List Int) (long : Int) (A3 : Option Addr) (c3 : Nat) (bs : List Int) (A4 : Option Addr) (c4 : Nat) (st : List Stn) (miss good fresh : Int) (t : Tm) (w : World) (hb : newE ⟨n, ps, ss, long, bs, st, miss, good, fresh⟩ = 0) :
    Calls Tryd.prog 31 #[(.agg #[.int .i64 n, .slice A1 ps.length c1, .slice A2 ss.length c2, .int .i64 long, .slice A3 bs.length c3, .slice A4 st.length c4, .int .i64 miss, .int .i64 good, .int .i64 fresh]), t.V] w fun e w' => e = .returned (.int .i64 (aheadE ⟨n, ps, ss, long, bs, st, miss, good, fresh⟩ t)) ∧ Below w.heap.size w w' := by
  have HA := Lib.hid fun (W : World) => refAge_any n A1 c1 ps A2 c2 ss long A3 c3 bs A4 c4 st miss good fresh t W hb
  obtain ⟨r, sl, pl⟩ := t
  simp only [Tm.V] at HA
  simp only [Tm.V]
  have hB := rb_of hb
  obtain ⟨m0, m1, l0, l1, r0, r1, rl⟩ := hB
  dsimp only at m0 m1 l0 l1 rl
  by_cases hok : ageOk ⟨n, ps, ss, long, bs, st, miss, good, fresh⟩ ⟨r, sl, pl⟩
  · have HV : Hid (aheadE ⟨n, ps, ss, long, bs, st, miss, good, fresh⟩ ⟨r, sl, pl⟩ = r * ss.length + sl) := Lib.hid (by rw [aheadE, if_pos hok])
    obtain ⟨V, hv⟩ : ∃ V, ageR ⟨n, ps, ss, long, bs, st, miss, good, fresh⟩ ⟨r, sl, pl⟩ = V := ⟨_, rfl⟩
    rw [hv, ageE, if_pos hok] at HA
    obtain ⟨o1, o2, ⟨o3, o4⟩, _, _, _⟩ := hok
    have b1 := mul_round o1 (by omega : 1 ≤ roundT ⟨n, ps, ss, long, bs, st, miss, good, fresh⟩) o2
    dsimp only at o1 o3 o4 b1
    have b2 : 0 ≤ r * (ss.length : Int) ∧ r * (ss.length : Int) ≤ 1099511627776 := by
      refine ⟨Int.mul_nonneg o1 (by omega), ?_⟩
      have : r * (ss.length : Int) ≤ r * roundT ⟨n, ps, ss, long, bs, st, miss, good, fresh⟩ := Int.mul_le_mul_of_nonneg_left (by omega) o1
      omega
    obtain ⟨X1, e1⟩ : ∃ X, r * (ss.length : Int) = X := ⟨_, rfl⟩
    obtain ⟨X, e2⟩ : ∃ X, X1 + sl = X := ⟨_, rfl⟩
    rw [e1] at b2
    have g1 : wrap64 (r * (ss.length : Int)) = X1 := by rw [e1]; exact wrap64_small (by omega) (by omega)
    have HX : Hid (r * (ss.length : Int) + sl = X1 + sl) := Lib.hid (by rw [e1])
    clear hv e1 e2 b1 o2
    go_enter Tryd.func31, Tryd.ntmps31
    go_wp2_with fail
    go_at_call 28
    refine (HA.out _).mono ?_
    rintro e w1 ⟨rfl, hb1⟩
    have kc := ((Blk.new_ w 44 #[.int .i64 n, .slice A1 ps.length c1, .slice A2 ss.length c2, .int .i64 long, .slice A3 bs.length c3, .slice A4 st.length c4, .int .i64 miss, .int .i64 good, .int .i64 fresh] rfl).alloc (.cells #[.int .i64 r, .int .i64 sl, .int .i64 pl] 66)).below hb1
    have kt := (Blk.new_ (w.alloc (.cells #[.int .i64 n, .slice A1 ps.length c1, .slice A2 ss.length c2, .int .i64 long, .slice A3 bs.length c3, .slice A4 st.length c4, .int .i64 miss, .int .i64 good, .int .i64 fresh] 44)) 66 #[.int .i64 r, .int .i64 sl, .int .i64 pl] (g := w.heap.size + 1) (by simp)).below hb1
    obtain ⟨q0, q1, q2, q3, q4, q5, q6, q7, q8⟩ := box9 kc
    obtain ⟨y0, y1, y2⟩ := box3 kt
    have hlc := kc.lt
    have hlt := kt.lt
    clear kc kt
    go_wp2_with fail
    go_ret
    exact ⟨by rw [HV.out, HX.out]; rfl, Below.then_ (Below.allocW (ba _ _) _) hb1⟩
  · have HV : Hid (aheadE ⟨n, ps, ss, long, bs, st, miss, good, fresh⟩ ⟨r, sl, pl⟩ = -1) := Lib.hid (by rw [aheadE, if_neg hok])
    rw [ageR, ageE, if_neg hok, if_neg hok] at HA
    clear hok
    go_enter Tryd.func31, Tryd.ntmps31
    go_wp2_with fail
    go_at_call 28
    refine (HA.out _).mono ?_
    rintro e w1 ⟨rfl, hb1⟩
    go_wp2_with fail
    go_ret
    exact ⟨by rw [HV.out]; rfl, Below.then_ (Below.allocW (ba _ _) _) hb1⟩
end Go.Proofs.YtmpkpikamogpdaaDoor.K
