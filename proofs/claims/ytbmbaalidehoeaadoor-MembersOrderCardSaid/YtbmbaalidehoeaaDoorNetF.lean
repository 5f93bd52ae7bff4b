/- Round, First of a net, by a net and without one. -/
import Derived.Test.YtbmbaalidehoeaaDoorNet
import Derived.Test.YtbmbaalidehoeaaDoorGrow
namespace Go.Proofs.YtbmbaalidehoeaaDoor.K
open Go.RowKit

/-- Ticks of a round. -/
def roundT (c : Cfg) : Int := c.slots.length * c.long
structure RB (M : Nat) (L R : Int) : Prop where
  m0 : 1 ≤ M
  m1 : M ≤ 16
  l0 : 120 ≤ L
  l1 : L ≤ 4096
  r0 : 120 ≤ R
  r1 : R ≤ 65536
  rl : L ≤ R
theorem rb_of {c : Cfg} (h : newE c = 0) : RB c.slots.length c.long (roundT c) := by
  have b := bounds_of h
  have h1 := b.s0
  have h2 := b.s1
  have h3 := b.lo
  have h4 := b.l1
  have h5 := b.n0
  have hl : 120 ≤ c.long := by omega
  have a1 : c.long ≤ roundT c := by
    have : (1 : Int) * c.long ≤ (c.slots.length : Int) * c.long := Int.mul_le_mul_of_nonneg_right (by omega) (by omega)
    unfold roundT
    omega
  have a2 : roundT c ≤ 16 * c.long := Int.mul_le_mul_of_nonneg_right (by omega) (by omega)
  exact ⟨h1, h2, hl, h4, by omega, by omega, a1⟩
theorem wrap_small {x : Int} (h : -9223372036854775808 ≤ x) (h' : x ≤ 9223372036854775807) : IntKind.i64.wrap x = x := by
  rw [IntKind.wrap_i64]
  omega

/-- A pointer to a net of a config, or to nothing that serves. -/
def BareAt (w : World) (v : Value) : Prop :=
  v = .pointer none ∨ ∃ p, v = .pointer (some ⟨p, 0, none⟩) ∧ Blk w p 71 #[.int .i64 0, .slice none 0 0, .slice none 0 0, .int .i64 0, .slice none 0 0, .slice none 0 0, .int .i64 0, .int .i64 0, .int .i64 0, .slice none 0 0]
theorem BareAt.below {w w' : World} {v : Value} (h : BareAt w v) (hb : Below w.heap.size w w') : BareAt w' v := by
  rcases h with h | ⟨p, h, k⟩
  · exact .inl h
  · exact .inr ⟨p, h, k.below hb⟩

set_option maxHeartbeats 1000000 in
theorem there_bare (v : Value) (w : World) (h : BareAt w v) :
    Calls Tryd.prog 62 #[v] w fun e w' => e = .returned (.bool false) ∧ w = w' := by
  rcases h with rfl | ⟨p, rfl, k⟩
  · exact there_nil w
  · have g9 := k.cell 9
    simp at g9
    have hpl := k.lt
    clear k
    go_enter Tryd.func62, Tryd.ntmps62
    go_wp2
    go_ret
    exact ⟨rfl, rfl⟩

set_option maxHeartbeats 1000000 in
theorem round_bare (v : Value) (w : World) (h : BareAt w v) :
    Calls Tryd.prog 21 #[v] w fun e w' => e = .returned (.int .i64 0) ∧ w = w' := by
  have HT := Lib.hid (there_bare v w h)
  clear h
  go_enter Tryd.func21, Tryd.ntmps21
  go_wp2_with (go_at_call 62; refine (HT.out).mono ?_; rintro e w' ⟨rfl, rfl⟩)
  go_ret
  exact ⟨rfl, rfl⟩

set_option maxHeartbeats 1000000 in
theorem round_any' (p : Nat) (c : Cfg) (w : World) (h : NetAt w p c) :
    Calls Tryd.prog 21 #[.pointer (some ⟨p, 0, none⟩)] w fun e w' => e = .returned (.int .i64 (roundT c)) ∧ ∃ q, w' = w.drewN q := by
  have HT := Lib.hid (there_any p c w h)
  have hB := rb_of h.1
  obtain ⟨hE, g, A1, A2, A3, A4, h0, _⟩ := h
  have g2 := h0.cell 2
  have g3 := h0.cell 3
  simp at g2 g3
  have hpl := h0.lt
  obtain ⟨R, eR⟩ : ∃ R, roundT c = R := ⟨_, rfl⟩
  have hw : IntKind.i64.wrap ((c.slots.length : Int) * c.long) = R := by
    rw [← eR]
    exact wrap_small (by have := hB.r0; unfold roundT at this; omega) (by have := hB.r1; unfold roundT at this; omega)
  rw [eR]
  clear h0 hE hB eR
  go_enter Tryd.func21, Tryd.ntmps21
  go_wp2_with (go_at_call 62; refine (HT.out).mono ?_; rintro e w' ⟨rfl, rfl⟩)
  go_quiet (fail)
  rename_i nq
  go_wp2
  go_ret
  exact ⟨rfl, _, rfl⟩

/-- Of a list; -1: there is none. -/
def atE (xs : List Int) (i : Int) : Int := if 0 ≤ i then xs[i.toNat]?.getD (-1) else -1
set_option maxHeartbeats 1000000 in
theorem at_any (A : Option Addr) (c : Nat) (xs : List Int) (i : Int) (w : World) (hr : RdI w A xs) :
    Calls Tryd.prog 63 #[.slice A xs.length c, .int .i64 i] w fun e w' => e = .returned (.int .i64 (atE xs i)) ∧ w = w' := by
  by_cases h0 : i < 0
  · go_enter Tryd.func63, Tryd.ntmps63
    go_wp2
    go_ret
    exact ⟨ret_int (by rw [atE, if_neg (by omega)]), rfl⟩
  · obtain ⟨k, rfl⟩ : ∃ k : Nat, i = k := ⟨i.toNat, by omega⟩
    by_cases hk : k < xs.length
    · obtain ⟨b, off, rfl, hcs⟩ := hr.at_ hk
      have hcx := hcs k hk
      rw [List.getElem?_eq_getElem hk] at hcx
      have hk' : (k : Int) < (xs.length : Int) := by omega
      have HX : Hid (atE xs k = xs[k]) := Lib.hid (by rw [atE, if_pos (by omega), Int.toNat_natCast, List.getElem?_eq_getElem hk]; rfl)
      obtain ⟨x, hx⟩ : ∃ x, xs[k] = x := ⟨_, rfl⟩
      simp only [Option.getD_some] at hcx
      rw [hx] at hcx HX
      clear hcs hr hx
      go_enter Tryd.func63, Tryd.ntmps63
      go_wp2
      go_ret
      exact ⟨ret_int HX.out.symm, rfl⟩
    · have hk' : (xs.length : Int) ≤ (k : Int) := by omega
      go_enter Tryd.func63, Tryd.ntmps63
      go_wp2
      go_ret
      exact ⟨ret_int (by rw [atE, if_pos (by omega), Int.toNat_natCast, List.getElem?_eq_none (by omega)]; rfl), rfl⟩

/-- A pair's first half; -1: there is none. -/
def firstE (c : Cfg) (i : Int) : Int := atE c.pairs i
theorem firstE_yes {c : Cfg} (h : newE c = 0) {i : Int} (h0 : 0 ≤ i) (h1 : i < c.pairs.length) : 0 ≤ firstE c i := by
  unfold firstE atE
  rw [if_pos h0]
  have hl : i.toNat < c.pairs.length := by omega
  rw [List.getElem?_eq_getElem hl]
  exact ((bounds_of h).pin _ (List.getElem_mem hl)).1
theorem firstE_no {c : Cfg} {i : Int} (h : i < 0 ∨ c.pairs.length ≤ i) : firstE c i = -1 := by
  unfold firstE atE
  by_cases h0 : 0 ≤ i
  · rw [if_pos h0, List.getElem?_eq_none (by omega)]; rfl
  · rw [if_neg h0]
theorem firstE_neg {c : Cfg} (h : newE c = 0) (i : Int) : firstE c i < 0 ↔ ¬ (0 ≤ i ∧ i < c.pairs.length) := by
  constructor
  · intro g ⟨h0, h1⟩
    have := firstE_yes h h0 h1
    omega
  · intro g
    rw [firstE_no (by omega)]
    omega

set_option maxHeartbeats 1000000 in
theorem first_net (p : Nat) (c : Cfg) (i : Int) (w : World) (h : NetAt w p c) :
    Calls Tryd.prog 22 #[.pointer (some ⟨p, 0, none⟩), .int .i64 i] w fun e w' => e = .returned (.int .i64 (firstE c i)) ∧ w = w' := by
  have HT := Lib.hid (there_any p c w h)
  obtain ⟨hE, g, A1, A2, A3, A4, h0, h1, h2, _⟩ := h
  have g1 := h0.cell 1
  simp at g1
  have hpl := h0.lt
  have HA := Lib.hid (at_any A1 c.pairs.length c.pairs i w h1)
  clear h0 hE h2 h1
  go_enter Tryd.func22, Tryd.ntmps22
  go_wp2_with (first | (go_at_call 62; refine (HT.out).mono ?_; rintro e w' ⟨rfl, rfl⟩) | (go_at_call 63; refine (HA.out).mono ?_; rintro e w' ⟨rfl, rfl⟩))
  go_ret
  exact ⟨rfl, rfl⟩
set_option maxHeartbeats 1000000 in
theorem first_bare (v : Value) (i : Int) (w : World) (h : BareAt w v) :
    Calls Tryd.prog 22 #[v, .int .i64 i] w fun e w' => e = .returned (.int .i64 (-1)) ∧ w = w' := by
  have HT := Lib.hid (there_bare v w h)
  clear h
  go_enter Tryd.func22, Tryd.ntmps22
  go_wp2_with (go_at_call 62; refine (HT.out).mono ?_; rintro e w' ⟨rfl, rfl⟩)
  go_ret
  exact ⟨rfl, rfl⟩
end Go.Proofs.YtbmbaalidehoeaaDoor.K
