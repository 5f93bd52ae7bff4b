/- Clocks: Round, Owner of a net; clocks.Of, Age, Ahead, by a net and without one. -/
import Derived.Test.YtmpkpikamogpdaaDoorRef4b
import Derived.Test.YtmpkpikamogpdaaDoorNet
import Derived.Test.YtmpkpikamogpdaaDoorGrow
namespace Go.Proofs.YtmpkpikamogpdaaDoor.K
open Go.RowKit

/-- Ticks of a round. -/
def roundT (c : Cfg) : Int := c.slots.length * c.long
structure RB (M : Nat) (L R : Int) : Prop where
  m0 : 1 ≤ M
  m1 : M ≤ 16
  l0 : 120 ≤ L
  l1 : L ≤ 4096
  r0 : 120 ≤ R
  r1 : R ≤ 65536
  rl : L ≤ R
theorem rb_of {c : Cfg} (h : newE c = 0) : RB c.slots.length c.long (roundT c) := by
  have b := bounds_of h
  have h1 := b.s0
  have h2 := b.s1
  have h3 := b.lo
  have h4 := b.l1
  have h5 := b.n0
  have hl : 120 ≤ c.long := by omega
  have a1 : c.long ≤ roundT c := by
    have : (1 : Int) * c.long ≤ (c.slots.length : Int) * c.long := Int.mul_le_mul_of_nonneg_right (by omega) (by omega)
    unfold roundT
    omega
  have a2 : roundT c ≤ 16 * c.long := Int.mul_le_mul_of_nonneg_right (by omega) (by omega)
  exact ⟨h1, h2, hl, h4, by omega, by omega, a1⟩
theorem slots_in {c : Cfg} (h : newE c = 0) : ∀ x ∈ c.slots, 0 ≤ x ∧ x < c.pairs.length := by
  have h5 := must_zero (newE_zero h 4 (by omega))
  simp only [Bool.and_eq_true, Bool.not_eq_true'] at h5
  intro a ha
  have h6 := (List.any_eq_false.1 h5.1) a ha
  simp only [notIn, Bool.or_eq_true, decide_eq_true_eq, not_or] at h6
  omega
theorem wrap_small {x : Int} (h : -9223372036854775808 ≤ x) (h' : x ≤ 9223372036854775807) : IntKind.i64.wrap x = x := by
  rw [IntKind.wrap_i64]
  omega

/-- A pointer to a net of a config, or to nothing that serves. -/
def BareAt (w : World) (v : Value) : Prop :=
  v = .pointer none ∨ ∃ p, v = .pointer (some ⟨p, 0, none⟩) ∧ Blk w p 89 #[.int .i64 0, .slice none 0 0, .slice none 0 0, .int .i64 0, .slice none 0 0, .slice none 0 0, .int .i64 0, .int .i64 0, .int .i64 0, .slice none 0 0]
theorem BareAt.below {w w' : World} {v : Value} (h : BareAt w v) (hb : Below w.heap.size w w') : BareAt w' v := by
  rcases h with h | ⟨p, h, k⟩
  · exact .inl h
  · exact .inr ⟨p, h, k.below hb⟩

set_option maxHeartbeats 1000000 in
theorem there_bare (v : Value) (w : World) (h : BareAt w v) :
    Calls Tryd.prog 83 #[v] w fun e w' => e = .returned (.bool false) ∧ w = w' := by
  rcases h with rfl | ⟨p, rfl, k⟩
  · exact there_nil w
  · have g9 := k.cell 9
    simp at g9
    have hpl := k.lt
    clear k
    go_enter Tryd.func83, Tryd.ntmps83
    go_wp2
    go_ret
    exact ⟨rfl, rfl⟩

set_option maxHeartbeats 1000000 in
theorem round_bare (v : Value) (w : World) (h : BareAt w v) :
    Calls Tryd.prog 52 #[v] w fun e w' => e = .returned (.int .i64 0) ∧ w = w' := by
  have HT := Lib.hid (there_bare v w h)
  clear h
  go_enter Tryd.func52, Tryd.ntmps52
  go_wp2_with (go_at_call 83; refine (HT.out).mono ?_; rintro e w' ⟨rfl, rfl⟩)
  go_ret
  exact ⟨rfl, rfl⟩

set_option maxHeartbeats 1000000 in
theorem round_any' (p : Nat) (c : Cfg) (w : World) (h : NetAt w p c) :
    Calls Tryd.prog 52 #[.pointer (some ⟨p, 0, none⟩)] w fun e w' => e = .returned (.int .i64 (roundT c)) ∧ ∃ q, w' = w.drewN q := by
  have HT := Lib.hid (there_any p c w h)
  have hB := rb_of h.1
  obtain ⟨hE, g, A1, A2, A3, A4, h0, _⟩ := h
  have g2 := h0.cell 2
  have g3 := h0.cell 3
  simp at g2 g3
  have hpl := h0.lt
  obtain ⟨R, eR⟩ : ∃ R, roundT c = R := ⟨_, rfl⟩
  have hw : IntKind.i64.wrap ((c.slots.length : Int) * c.long) = R := by
    rw [← eR]
    exact wrap_small (by have := hB.r0; unfold roundT at this; omega) (by have := hB.r1; unfold roundT at this; omega)
  rw [eR]
  clear h0 hE hB eR
  go_enter Tryd.func52, Tryd.ntmps52
  go_wp2_with (go_at_call 83; refine (HT.out).mono ?_; rintro e w' ⟨rfl, rfl⟩)
  go_quiet (fail)
  rename_i nq
  go_wp2
  go_ret
  exact ⟨rfl, _, rfl⟩

/-- Of a list; -1: there is none. -/
def atE (xs : List Int) (i : Int) : Int := if 0 ≤ i then xs[i.toNat]?.getD (-1) else -1
set_option maxHeartbeats 1000000 in
theorem at_any (A : Option Addr) (c : Nat) (xs : List Int) (i : Int) (w : World) (hr : RdI w A xs) :
    Calls Tryd.prog 84 #[.slice A xs.length c, .int .i64 i] w fun e w' => e = .returned (.int .i64 (atE xs i)) ∧ w = w' := by
  by_cases h0 : i < 0
  · go_enter Tryd.func84, Tryd.ntmps84
    go_wp2
    go_ret
    exact ⟨ret_int (by rw [atE, if_neg (by omega)]), rfl⟩
  · obtain ⟨k, rfl⟩ : ∃ k : Nat, i = k := ⟨i.toNat, by omega⟩
    by_cases hk : k < xs.length
    · obtain ⟨b, off, rfl, hcs⟩ := hr.at_ hk
      have hcx := hcs k hk
      rw [List.getElem?_eq_getElem hk] at hcx
      have hk' : (k : Int) < (xs.length : Int) := by omega
      have HX : Hid (atE xs k = xs[k]) := Lib.hid (by rw [atE, if_pos (by omega), Int.toNat_natCast, List.getElem?_eq_getElem hk]; rfl)
      obtain ⟨x, hx⟩ : ∃ x, xs[k] = x := ⟨_, rfl⟩
      simp only [Option.getD_some] at hcx
      rw [hx] at hcx HX
      clear hcs hr hx
      go_enter Tryd.func84, Tryd.ntmps84
      go_wp2
      go_ret
      exact ⟨ret_int HX.out.symm, rfl⟩
    · have hk' : (xs.length : Int) ≤ (k : Int) := by omega
      go_enter Tryd.func84, Tryd.ntmps84
      go_wp2
      go_ret
      exact ⟨ret_int (by rw [atE, if_pos (by omega), Int.toNat_natCast, List.getElem?_eq_none (by omega)]; rfl), rfl⟩
/-- Which pair owns a slot. -/
def ownerE (c : Cfg) (i : Int) : Int := atE c.slots i
theorem ownerE_neg {c : Cfg} (h : newE c = 0) (i : Int) : ownerE c i < 0 ↔ ¬ (0 ≤ i ∧ i < c.slots.length) := by
  unfold ownerE atE
  split
  · rename_i h0
    by_cases hl : i.toNat < c.slots.length
    · rw [List.getElem?_eq_getElem hl]
      have := slots_in h _ (List.getElem_mem hl)
      simp only [Option.getD_some]
      omega
    · rw [List.getElem?_eq_none (by omega)]
      simp only [Option.getD_none]
      omega
  · omega

set_option maxHeartbeats 1000000 in
theorem owner_any (p : Nat) (c : Cfg) (i : Int) (w : World) (h : NetAt w p c) :
    Calls Tryd.prog 55 #[.pointer (some ⟨p, 0, none⟩), .int .i64 i] w fun e w' => e = .returned (.int .i64 (ownerE c i)) ∧ w = w' := by
  have HT := Lib.hid (there_any p c w h)
  obtain ⟨hE, g, A1, A2, A3, A4, h0, _, h2, _⟩ := h
  have g2 := h0.cell 2
  simp at g2
  have hpl := h0.lt
  have HA := Lib.hid (at_any A2 c.slots.length c.slots i w h2)
  clear h0 hE h2
  go_enter Tryd.func55, Tryd.ntmps55
  go_wp2_with (first | (go_at_call 83; refine (HT.out).mono ?_; rintro e w' ⟨rfl, rfl⟩) | (go_at_call 84; refine (HA.out).mono ?_; rintro e w' ⟨rfl, rfl⟩))
  go_ret
  exact ⟨rfl, rfl⟩
end Go.Proofs.YtmpkpikamogpdaaDoor.K
