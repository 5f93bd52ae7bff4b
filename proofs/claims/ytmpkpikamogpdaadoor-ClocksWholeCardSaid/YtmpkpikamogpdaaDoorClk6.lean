/- Times and ages: the plain law. sennitlaw06.Net, sennitlaw04.Great. -/
import Derived.Test.YtmpkpikamogpdaaDoorClk5
import Derived.Laws.BitsAllLaws
import Derived.Laws.BitsLemmas
namespace Go.Proofs.YtmpkpikamogpdaaDoor.K
open Go.RowKit

theorem and_range (n m : Int) (h0 : 0 ≤ m) (h1 : m < 9223372036854775808) : 0 ≤ bits .and .i64 n m ∧ bits .and .i64 n m ≤ m := by
  have hm : (BitVec.ofInt 64 m).toNat = m.toNat := by
    rw [BitVec.toNat_ofInt, Int.emod_eq_of_lt h0 (by omega)]
  have hle : (BitVec.ofInt 64 n &&& BitVec.ofInt 64 m).toNat ≤ m.toNat := by
    rw [BitVec.toNat_and, hm]
    exact Nat.and_le_right
  have hw : bits .and .i64 n m = IntKind.i64.wrap ((BitVec.ofInt 64 n &&& BitVec.ofInt 64 m).toNat : Int) := rfl
  rw [hw, wrap_small (by omega) (by omega)]
  omega

/-- What a round, a slot and a place make of an age. -/
theorem tm_parts {b r s pl M L R : Int} (hR : R = M * L) (hL : 1 ≤ L) (h0 : 0 ≤ s) (h1 : s < M) (h2 : 0 ≤ pl) (h3 : pl < L) (hb : b = r * R + s * L + pl) : b / R = r ∧ b % R / L = s ∧ b % R % L = pl := by
  have a1 : 0 ≤ s * L := Int.mul_nonneg h0 (by omega)
  have a2 : s * L + L ≤ M * L := by
    have : (s + 1) * L ≤ M * L := Int.mul_le_mul_of_nonneg_right (by omega) (by omega)
    rwa [Int.add_mul, Int.one_mul] at this
  have e : b = (s * L + pl) + R * r := by rw [hb, Int.mul_comm R r]; omega
  have hRp : R ≠ 0 := by omega
  have q1 : b / R = r := by
    rw [e, Int.add_mul_ediv_left _ _ hRp, Int.ediv_eq_zero_of_lt (by omega) (by omega), Int.zero_add]
  have q2 : b % R = s * L + pl := by
    rw [e, Int.add_mul_emod_self_left, Int.emod_eq_of_lt (by omega) (by omega)]
  have e2 : s * L + pl = pl + L * s := by rw [Int.mul_comm L s]; omega
  refine ⟨q1, ?_, ?_⟩
  · rw [q2, e2, Int.add_mul_ediv_left _ _ (by omega), Int.ediv_eq_zero_of_lt h2 h3, Int.zero_add]
  · rw [q2, e2, Int.add_mul_emod_self_left, Int.emod_eq_of_lt h2 h3]
theorem tm_age {b M L R : Int} (hR : R = M * L) (hL : 1 ≤ L) (hM : 1 ≤ M) (hb : 0 ≤ b) :
    b = (b / R) * R + (b % R / L) * L + b % R % L ∧ 0 ≤ b / R ∧ (0 ≤ b % R / L ∧ b % R / L < M) ∧ (0 ≤ b % R % L ∧ b % R % L < L) ∧ b / L = (b / R) * M + b % R / L := by
  have hRp : 1 ≤ R := by
    have : 1 * L ≤ M * L := Int.mul_le_mul_of_nonneg_right hM (by omega)
    omega
  have c0 : 0 ≤ b % R := Int.emod_nonneg _ (by omega)
  have c1 : b % R < R := Int.emod_lt_of_pos _ (by omega)
  have c2 : 0 ≤ b % R / L := Int.ediv_nonneg c0 (by omega)
  have c3 : b % R / L < M := Int.ediv_lt_of_lt_mul (by omega) (by rw [← hR]; exact c1)
  have c4 : 0 ≤ b % R % L := Int.emod_nonneg _ (by omega)
  have c5 : b % R % L < L := Int.emod_lt_of_pos _ (by omega)
  have d1 : R * (b / R) + b % R = b := Int.mul_ediv_add_emod b R
  have d2 : L * (b % R / L) + b % R % L = b % R := Int.mul_ediv_add_emod (b % R) L
  have e1 : b = (b / R) * R + (b % R / L) * L + b % R % L := by
    rw [Int.mul_comm (b / R) R, Int.mul_comm (b % R / L) L]
    omega
  refine ⟨e1, Int.ediv_nonneg hb (by omega), ⟨c2, c3⟩, ⟨c4, c5⟩, ?_⟩
  have e3 : b = b % R % L + L * ((b / R) * M + b % R / L) := by
    have : L * ((b / R) * M) = (b / R) * R := by rw [hR, ← Int.mul_assoc, Int.mul_comm L (b / (M * L)), Int.mul_assoc, Int.mul_comm L M]
    rw [Int.mul_add, this, Int.mul_comm L (b % R / L)]
    omega
  have h4 : b / L = (b % R % L + L * ((b / R) * M + b % R / L)) / L := by rw [← e3]
  rw [h4, Int.add_mul_ediv_left _ _ (by omega), Int.ediv_eq_zero_of_lt c4 c5, Int.zero_add]
theorem roundT_eq (c : Cfg) : roundT c = (c.slots.length : Int) * c.long := rfl

/-- Of an age that may be: its time, and back. -/
theorem tOf_back {c : Cfg} (h : newE c = 0) {a : Int} (h0 : 0 ≤ a) (h1 : a ≤ 1099511627776) : ageOk c (tOf c a) ∧ ageV c (tOf c a) = a ∧ aheadE c (tOf c a) = a / c.long ∧ (0 ≤ (tOf c a).slot ∧ (tOf c a).slot < c.slots.length) ∧ (0 ≤ (tOf c a).place ∧ (tOf c a).place < c.long) ∧ 0 ≤ (tOf c a).round ∧ (tOf c a).round ≤ 1099511627776 := by
  have hB := rb_of h
  obtain ⟨m0, m1, l0, l1, r0, r1, rl⟩ := hB
  have ht : tOf c a = ⟨a / roundT c, a % roundT c / c.long, a % roundT c % c.long⟩ := by rw [tOf, if_neg (by unfold outB; omega)]
  obtain ⟨e, q0, q1, q2, q3⟩ := tm_age (roundT_eq c) (by omega) (by omega : (1 : Int) ≤ (c.slots.length : Int)) h0
  have hv : ageV c (tOf c a) = a := by rw [ht]; exact e.symm
  have hq : a / roundT c ≤ 1099511627776 / roundT c := Int.ediv_le_ediv (by omega) h1
  have hok : ageOk c (tOf c a) := by
    refine ⟨?_, ?_, ?_, ?_, ?_, by rw [hv]; exact h1⟩
    · rw [ht]; exact q0
    · rw [ht]; exact hq
    · rw [ht]; exact q1
    · rw [ht]; exact q2.1
    · rw [ht]; exact q2.2
  refine ⟨hok, hv, ?_, ?_, ?_, ?_, ?_⟩
  · rw [aheadE, if_pos hok, ht]; exact q3.symm
  · rw [ht]; exact q1
  · rw [ht]; exact q2
  · rw [ht]; exact q0
  · rw [ht]
    have : a / roundT c ≤ a := Int.ediv_le_self _ h0
    show a / roundT c ≤ _
    omega
/-- A tick later. -/
theorem tOf_next {c : Cfg} (h : newE c = 0) {a : Int} (h0 : 0 ≤ a) (h1 : a + 1 ≤ 1099511627776) :
    tOf c (a + 1) = if (tOf c a).place + 1 < c.long then ⟨(tOf c a).round, (tOf c a).slot, (tOf c a).place + 1⟩ else if (tOf c a).slot + 1 < c.slots.length then ⟨(tOf c a).round, (tOf c a).slot + 1, 0⟩ else ⟨(tOf c a).round + 1, 0, 0⟩ := by
  have hB := rb_of h
  obtain ⟨m0, m1, l0, l1, r0, r1, rl⟩ := hB
  obtain ⟨hok, hv, _, ⟨s0, s1⟩, ⟨p0, p1⟩, _⟩ := tOf_back h h0 (by omega)
  obtain ⟨⟨r, s, pl⟩, ht⟩ : ∃ t, tOf c a = t := ⟨_, rfl⟩
  rw [ht] at hv s0 s1 p0 p1 ⊢
  dsimp only at s0 s1 p0 p1 ⊢
  have hv' : r * roundT c + s * c.long + pl = a := hv
  have hn : tOf c (a + 1) = ⟨(a + 1) / roundT c, (a + 1) % roundT c / c.long, (a + 1) % roundT c % c.long⟩ := by rw [tOf, if_neg (by unfold outB; omega)]
  have hR := roundT_eq c
  split
  · rename_i hlt
    obtain ⟨x, y, z⟩ := tm_parts (b := a + 1) (r := r) (s := s) (pl := pl + 1) hR (by omega) s0 s1 (by omega) hlt (by omega)
    rw [hn, x, y, z]
  · rename_i hlt
    have hpl : pl + 1 = c.long := by omega
    split
    · rename_i hs
      obtain ⟨x, y, z⟩ := tm_parts (b := a + 1) (r := r) (s := s + 1) (pl := 0) hR (by omega) (by omega) hs (by omega) (by omega) (by rw [Int.add_mul, Int.one_mul]; omega)
      rw [hn, x, y, z]
    · rename_i hs
      have hsl : s + 1 = (c.slots.length : Int) := by omega
      have hlast : s * c.long + c.long = roundT c := by
        rw [hR, ← hsl, Int.add_mul, Int.one_mul]
      obtain ⟨x, y, z⟩ := tm_parts (b := a + 1) (r := r + 1) (s := 0) (pl := 0) hR (by omega) (by omega) (by omega) (by omega) (by omega) (by rw [Int.add_mul, Int.one_mul]; omega)
      rw [hn, x, y, z]

/-! ### Great, Net -/
def GreatP (ps ss bs : List Int) (st : List Stn) : Prop := 60 < ps.length ∨ 60 < ss.length ∨ 60 < bs.length ∨ 60 < st.length
set_option maxRecDepth 100000 in
set_option maxHeartbeats 4000000 in
theorem great_any (n : Int) (A1 : Option Addr) (c1 : Nat) (ps : List Int) (A2 : Option Addr) (c2 : Nat) (ss : List Int) (long : Int) (A3 : Option Addr) (c3 : Nat) (bs : List Int) (A4 : Option Addr) (c4 : Nat) (st : List Stn) (miss good fresh : Int) (b : Bool) (w : World) (hb : b = true ↔ GreatP ps ss bs st) :
    Calls Tryd.prog 51 #[(.agg #[.int .i64 n, .slice A1 ps.length c1, .slice A2 ss.length c2, .int .i64 long, .slice A3 bs.length c3, .slice A4 st.length c4, .int .i64 miss, .int .i64 good, .int .i64 fresh])] w fun e w' => e = .returned (.bool b) ∧ Below w.heap.size w w' := by
  have HB := Lib.hid hb
  clear hb
  by_cases h1 : 60 < ps.length
  · obtain rfl : b = true := HB.out.2 (.inl h1)
    go_enter Tryd.func51, Tryd.ntmps51
    go_wp2
    go_ret
    exact ⟨ret_bool (by first | (simp; done) | (simp; omega)), ba _ _⟩
  by_cases h2 : 60 < ss.length
  · obtain rfl : b = true := HB.out.2 (.inr (.inl h2))
    go_enter Tryd.func51, Tryd.ntmps51
    go_wp2
    go_ret
    exact ⟨ret_bool (by first | (simp; done) | (simp; omega)), ba _ _⟩
  by_cases h3 : 60 < bs.length
  · obtain rfl : b = true := HB.out.2 (.inr (.inr (.inl h3)))
    go_enter Tryd.func51, Tryd.ntmps51
    go_wp2
    go_ret
    exact ⟨ret_bool (by first | (simp; done) | (simp; omega)), ba _ _⟩
  by_cases h4 : 60 < st.length
  · obtain rfl : b = true := HB.out.2 (.inr (.inr (.inr h4)))
    go_enter Tryd.func51, Tryd.ntmps51
    go_wp2
    go_ret
    exact ⟨ret_bool (by first | (simp; done) | (simp; omega)), ba _ _⟩
  have hf : b = false := by
    cases b
    · rfl
    · have := HB.out.1 rfl
      unfold GreatP at this
      omega
  subst hf
  go_enter Tryd.func51, Tryd.ntmps51
  go_wp2
  go_ret
  exact ⟨ret_bool (by first | (simp; done) | (simp; omega)), ba _ _⟩

set_option maxRecDepth 100000 in
set_option maxHeartbeats 4000000 in
theorem net6_great (n : Int) (A1 : Option Addr) (c1 : Nat) (ps : List Int) (A2 : Option Addr) (c2 : Nat) (ss : List Int) (long : Int) (A3 : Option Addr) (c3 : Nat) (bs : List Int) (A4 : Option Addr) (c4 : Nat) (st : List Stn) (miss good fresh : Int) (w : World) (hg : GreatP ps ss bs st) :
    Calls Tryd.prog 23 #[(.agg #[.int .i64 n, .slice A1 ps.length c1, .slice A2 ss.length c2, .int .i64 long, .slice A3 bs.length c3, .slice A4 st.length c4, .int .i64 miss, .int .i64 good, .int .i64 fresh])] w fun e w' => e = .returned (.pointer none) ∧ Below w.heap.size w w' := by
  have HG := Lib.hid (great_any n A1 c1 ps A2 c2 ss long A3 c3 bs A4 c4 st miss good fresh true (w.alloc (.cells #[.int .i64 n, .slice A1 ps.length c1, .slice A2 ss.length c2, .int .i64 long, .slice A3 bs.length c3, .slice A4 st.length c4, .int .i64 miss, .int .i64 good, .int .i64 fresh] 44)) ⟨fun _ => hg, fun _ => rfl⟩)
  clear hg
  go_enter Tryd.func23, Tryd.ntmps23
  go_wp2_with fail
  go_at_call 51
  refine (HG.out).mono ?_
  rintro e w1 ⟨rfl, hb1⟩
  go_wp2_with fail
  go_ret
  exact ⟨rfl, Below.then_ (ba _ _) hb1⟩
set_option maxRecDepth 100000 in
set_option maxHeartbeats 4000000 in
theorem net6_bad (n : Int) (A1 : Option Addr) (c1 : Nat) (ps : List Int) (A2 : Option Addr) (c2 : Nat) (ss : List Int) (long : Int) (A3 : Option Addr) (c3 : Nat) (bs : List Int) (A4 : Option Addr) (c4 : Nat) (st : List Stn) (miss good fresh : Int) (w : World) (hg : ¬ GreatP ps ss bs st) (hc : CfgIn w A1 ps A2 ss A3 bs A4 st) (hb : newE ⟨n, ps, ss, long, bs, st, miss, good, fresh⟩ ≠ 0) :
    Calls Tryd.prog 23 #[(.agg #[.int .i64 n, .slice A1 ps.length c1, .slice A2 ss.length c2, .int .i64 long, .slice A3 bs.length c3, .slice A4 st.length c4, .int .i64 miss, .int .i64 good, .int .i64 fresh])] w fun e w' => e = .returned (.pointer none) ∧ Below w.heap.size w w' := by
  have HG := Lib.hid (great_any n A1 c1 ps A2 c2 ss long A3 c3 bs A4 c4 st miss good fresh false (w.alloc (.cells #[.int .i64 n, .slice A1 ps.length c1, .slice A2 ss.length c2, .int .i64 long, .slice A3 bs.length c3, .slice A4 st.length c4, .int .i64 miss, .int .i64 good, .int .i64 fresh] 44)) ⟨fun h => (by cases h), fun h => absurd h hg⟩)
  have HR4 := Lib.hid fun (W : World) (hb' : Below w.heap.size w W) => refNew_any n A1 c1 ps A2 c2 ss long A3 c3 bs A4 c4 st miss good fresh W (hc.below hb')
  obtain ⟨E, hE⟩ : ∃ E, newE ⟨n, ps, ss, long, bs, st, miss, good, fresh⟩ = E := ⟨_, rfl⟩
  rw [hE] at HR4
  have hE0 : (E != 0) = true := by rw [← hE]; simpa using hb
  clear hg hc hb hE
  go_enter Tryd.func23, Tryd.ntmps23
  go_wp2_with fail
  go_at_call 51
  refine (HG.out).mono ?_
  rintro e w1 ⟨rfl, hb1⟩
  have k1 := (Blk.new_ w 44 #[.int .i64 n, .slice A1 ps.length c1, .slice A2 ss.length c2, .int .i64 long, .slice A3 bs.length c3, .slice A4 st.length c4, .int .i64 miss, .int .i64 good, .int .i64 fresh] rfl).below hb1
  obtain ⟨q0, q1, q2, q3, q4, q5, q6, q7, q8⟩ := box9 k1
  have HB1 := Lib.hid (Below.then_ (ba _ _) hb1)
  clear k1 hb1
  go_wp2_with fail
  go_at_call 17
  refine (HR4.out _ HB1.out).mono ?_
  rintro e w2 ⟨rfl, hb2⟩
  go_wp2_with fail
  go_ret
  exact ⟨rfl, Below.then_ HB1.out hb2⟩
set_option maxRecDepth 100000 in
set_option maxHeartbeats 4000000 in
theorem net6_ok (n : Int) (A1 : Option Addr) (c1 : Nat) (ps : List Int) (A2 : Option Addr) (c2 : Nat) (ss : List Int) (long : Int) (A3 : Option Addr) (c3 : Nat) (bs : List Int) (A4 : Option Addr) (c4 : Nat) (st : List Stn) (miss good fresh : Int) (w : World) (hg : ¬ GreatP ps ss bs st) (hc : CfgIn w A1 ps A2 ss A3 bs A4 st) (hb : newE ⟨n, ps, ss, long, bs, st, miss, good, fresh⟩ = 0) :
    Calls Tryd.prog 23 #[(.agg #[.int .i64 n, .slice A1 ps.length c1, .slice A2 ss.length c2, .int .i64 long, .slice A3 bs.length c3, .slice A4 st.length c4, .int .i64 miss, .int .i64 good, .int .i64 fresh])] w fun e w' => ∃ p, e = .returned (.pointer (some ⟨p, 0, none⟩)) ∧ NetAt w' p ⟨n, ps, ss, long, bs, st, miss, good, fresh⟩ ∧ Below w.heap.size w w' := by
  have HG := Lib.hid (great_any n A1 c1 ps A2 c2 ss long A3 c3 bs A4 c4 st miss good fresh false (w.alloc (.cells #[.int .i64 n, .slice A1 ps.length c1, .slice A2 ss.length c2, .int .i64 long, .slice A3 bs.length c3, .slice A4 st.length c4, .int .i64 miss, .int .i64 good, .int .i64 fresh] 44)) ⟨fun h => (by cases h), fun h => absurd h hg⟩)
  have HR4 := Lib.hid fun (W : World) (hb' : Below w.heap.size w W) => refNew_any n A1 c1 ps A2 c2 ss long A3 c3 bs A4 c4 st miss good fresh W (hc.below hb')
  have HN := Lib.hid fun (W : World) (hb' : Below w.heap.size w W) => new_ok n A1 c1 ps A2 c2 ss long A3 c3 bs A4 c4 st miss good fresh W (hc.below hb') hb
  rw [hb] at HR4
  clear hg hc hb
  go_enter Tryd.func23, Tryd.ntmps23
  go_wp2_with fail
  go_at_call 51
  refine (HG.out).mono ?_
  rintro e w1 ⟨rfl, hb1⟩
  have k1 := (Blk.new_ w 44 #[.int .i64 n, .slice A1 ps.length c1, .slice A2 ss.length c2, .int .i64 long, .slice A3 bs.length c3, .slice A4 st.length c4, .int .i64 miss, .int .i64 good, .int .i64 fresh] rfl).below hb1
  obtain ⟨q0, q1, q2, q3, q4, q5, q6, q7, q8⟩ := box9 k1
  have K1 := Lib.hid k1
  have HB1 := Lib.hid (Below.then_ (ba _ _) hb1)
  clear k1 hb1
  go_wp2_with fail
  go_at_call 17
  refine (HR4.out _ HB1.out).mono ?_
  rintro e w2 ⟨rfl, hb2⟩
  clear q0 q1 q2 q3 q4 q5 q6 q7 q8
  obtain ⟨q0, q1, q2, q3, q4, q5, q6, q7, q8⟩ := box9 (K1.out.below hb2)
  have HB2 := Lib.hid (Below.then_ HB1.out hb2)
  clear hb2
  go_wp2_with fail
  go_at_call 16
  refine (HN.out _ HB2.out).mono ?_
  rintro e w3 ⟨p, rfl, hna, _, hb3⟩
  have NA := Lib.hid hna
  have HB3 := Lib.hid (Below.then_ HB2.out hb3)
  clear hna hb3
  go_wp2_with fail
  go_ret
  exact ⟨p, rfl, NA.out, HB3.out⟩
end Go.Proofs.YtmpkpikamogpdaaDoor.K
