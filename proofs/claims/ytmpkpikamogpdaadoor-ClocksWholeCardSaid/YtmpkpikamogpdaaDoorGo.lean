/- A clock's Slot; sennitlaw06.ClocksGo answers true. -/
import Derived.Test.YtmpkpikamogpdaaDoorClk6
namespace Go.Proofs.YtmpkpikamogpdaaDoor.K
open Go.RowKit

set_option maxRecDepth 100000 in
set_option maxHeartbeats 4000000 in
theorem slot_run (p kb : Nat) (c : Cfg) (r s pl : Int) (w : World) (hN : NetAt w p c) (hc : Blk w kb 93 (Ck.cells p ⟨1, r, s, pl⟩)) (h0 : 0 ≤ r ∧ r ≤ 1099511627776) (h1 : 0 ≤ s ∧ s < c.slots.length) :
    Calls Tryd.prog 34 #[.pointer (some ⟨kb, 0, none⟩)] w fun e w' => e = .returned (.tuple #[.int .i64 (r * c.slots.length + s), .bool true]) ∧ ∃ q, w' = w.drewN q := by
  simp only [Ck.cells] at hc
  obtain ⟨y0, y1, y2, y3, y4⟩ := box5 hc
  have hlk := hc.lt
  have hB := rb_of hN.1
  have m1 := hB.m1
  obtain ⟨_, g, A1, A2, A3, A4, k0, _⟩ := hN
  have n2 := k0.cell 2
  simp at n2
  have hln := k0.lt
  obtain ⟨M, eM⟩ : ∃ M : Nat, c.slots.length = M := ⟨_, rfl⟩
  rw [eM] at n2 h1 m1 ⊢
  obtain ⟨h0a, h0b⟩ := h0
  obtain ⟨h1a, h1b⟩ := h1
  have b1 : 0 ≤ r * (M : Int) ∧ r * (M : Int) ≤ 1099511627776 * 16 := by
    refine ⟨Int.mul_nonneg h0a (by omega), ?_⟩
    have x1 : r * (M : Int) ≤ 1099511627776 * (M : Int) := Int.mul_le_mul_of_nonneg_right h0b (by omega)
    omega
  obtain ⟨X1, e1⟩ : ∃ X, r * (M : Int) = X := ⟨_, rfl⟩
  obtain ⟨X, e2⟩ : ∃ X, X1 + s = X := ⟨_, rfl⟩
  rw [e1] at b1
  have g1 : IntKind.i64.wrap (r * (M : Int)) = X1 := by rw [e1]; exact wrap_small (by omega) (by omega)
  have g2 : IntKind.i64.wrap (X1 + s) = X := by rw [e2]; exact wrap_small (by omega) (by omega)
  rw [e1, e2]
  clear hc k0 hB eM e1 e2
  go_enter Tryd.func34, Tryd.ntmps34
  go_wp2_with fail
  go_quiet (fail)
  rename_i nq
  go_wp2_with fail
  go_ret2
  exact ⟨rfl, _, rfl⟩
set_option maxHeartbeats 2000000 in
theorem slot_idle (p kb : Nat) (r s pl : Int) (w : World) (hc : Blk w kb 93 (Ck.cells p ⟨0, r, s, pl⟩)) :
    Calls Tryd.prog 34 #[.pointer (some ⟨kb, 0, none⟩)] w fun e w' => e = .returned (.tuple #[.int .i64 0, .bool false]) ∧ w = w' := by
  simp only [Ck.cells] at hc
  obtain ⟨y0, y1, y2, y3, y4⟩ := box5 hc
  have hlk := hc.lt
  clear hc
  go_enter Tryd.func34, Tryd.ntmps34
  go_wp2_with fail
  go_ret2
  exact ⟨rfl, rfl⟩

/-! ### the plain law -/
def GoInv (c : Cfg) (age i : Int) (k : Ck) (b : Bool) : Prop :=
  (b = false ∧ k.state = 0 ∧ 0 ≤ k.pl ∧ k.pl ≤ 4096 ∧ (i = 0 ∨ (1 ≤ i ∧ (tOf c (age + (i - 1))).place = (tOf c age).place + (i - 1)))) ∨
  (b = true ∧ k.state = 1 ∧ 1 ≤ i ∧ tOf c (age + (i - 1)) = ⟨k.r, k.s, k.pl⟩)
theorem not_out {a : Int} (h0 : 0 ≤ a) (h1 : a ≤ 1099511627776) : ¬ outB a := by unfold outB; omega
theorem beginB_sure {c : Cfg} {a : Int} (h0 : 0 ≤ a) (h1 : a ≤ 1099511627776) : beginB c a true = ((tOf c a).place == 0) := by
  rw [beginB, decide_eq_false (not_out h0 h1)]; rfl
theorem go_pl {c : Cfg} (h : newE c = 0) {age i : Int} {k : Ck} {b : Bool} (hi : GoInv c age i k b) (h0 : 0 ≤ age) (h1 : age + i ≤ 1099511627776) : (k.state = 0 ∨ k.state = 1) ∧ 0 ≤ k.pl ∧ k.pl ≤ 4096 := by
  have hB := rb_of h
  have l1 := hB.l1
  rcases hi with ⟨_, h2, h3, h4, _⟩ | ⟨_, h2, h3, h4⟩
  · exact ⟨.inl h2, h3, h4⟩
  · have hb := tOf_back h (a := age + (i - 1)) (by omega) (by omega)
    rw [h4] at hb
    obtain ⟨_, _, _, _, ⟨p0, p1⟩, _⟩ := hb
    dsimp only at p0 p1
    exact ⟨.inr h2, p0, by omega⟩
theorem go_step {c : Cfg} (h : newE c = 0) {age i : Int} {k : Ck} {b : Bool} (hi : GoInv c age i k b) (h0 : 0 ≤ age) (hi0 : 0 ≤ i) (h1 : age + i ≤ 1099511627776) :
    (tickS c (age + i) true k = ⟨1, (tOf c (age + i)).round, (tOf c (age + i)).slot, (tOf c (age + i)).place⟩ ∧ GoInv c age (i + 1) (tickS c (age + i) true k) true ∧ (b = true ∨ (b = false ∧ (tOf c (age + i)).place = 0))) ∨
    ((tickS c (age + i) true k).state = 0 ∧ b = false ∧ (tOf c (age + i)).place ≠ 0 ∧ GoInv c age (i + 1) (tickS c (age + i) true k) false) := by
  have hbb := beginB_sure (c := c) (a := age + i) (by omega) h1
  have e1 : age + (i + 1 - 1) = age + i := by omega
  have hrun : ∀ k' : Ck, k' = ⟨1, (tOf c (age + i)).round, (tOf c (age + i)).slot, (tOf c (age + i)).place⟩ → GoInv c age (i + 1) k' true := by
    rintro k' rfl
    exact .inr ⟨rfl, rfl, by omega, by rw [e1]⟩
  have hbeg : ∀ k0 : Ck, (tOf c (age + i)).place = 0 → beginS c (age + i) true k0 = ⟨1, (tOf c (age + i)).round, (tOf c (age + i)).slot, (tOf c (age + i)).place⟩ := fun k0 hz => by
    rw [beginS, if_pos (by rw [hbb, hz]; rfl)]
  rcases hi with ⟨rfl, hs, hp0, hp1, hpl⟩ | ⟨rfl, hs, h2, h3⟩
  · have ht : tickS c (age + i) true k = beginS c (age + i) true k := by rw [tickS, if_neg (by omega)]
    by_cases hz : (tOf c (age + i)).place = 0
    · have := hbeg k hz
      exact .inl ⟨by rw [ht]; exact this, by rw [ht]; exact hrun _ this, .inr ⟨rfl, hz⟩⟩
    · have hn : beginS c (age + i) true k = ⟨0, k.r, k.s, k.pl⟩ := by
        rw [beginS, if_neg (by rw [hbb]; simpa using hz)]
      have hP : (tOf c (age + (i + 1 - 1))).place = (tOf c age).place + (i + 1 - 1) := by
        rw [e1, show i + 1 - 1 = i by omega]
        rcases hpl with rfl | ⟨hi1, hpl⟩
        · simp
        · have hnx := tOf_next h (a := age + (i - 1)) (by omega) (by omega)
          rw [show age + (i - 1) + 1 = age + i by omega] at hnx
          split at hnx
          · rw [hnx]
            show (tOf c (age + (i - 1))).place + 1 = _
            omega
          · split at hnx
            · rw [hnx] at hz; exact absurd rfl hz
            · rw [hnx] at hz; exact absurd rfl hz
      exact .inr ⟨by rw [ht, hn], rfl, hz, by rw [ht, hn]; exact .inl ⟨rfl, rfl, hp0, hp1, .inr ⟨by omega, hP⟩⟩⟩
  · have hnx := tOf_next h (a := age + (i - 1)) (by omega) (by omega)
    rw [show age + (i - 1) + 1 = age + i by omega, h3] at hnx
    dsimp only at hnx
    by_cases hlt : k.pl + 1 < c.long
    · rw [if_pos hlt] at hnx
      have ht : tickS c (age + i) true k = ⟨1, (tOf c (age + i)).round, (tOf c (age + i)).slot, (tOf c (age + i)).place⟩ := by
        rw [tickS, if_pos hs, if_pos hlt, hnx]
      exact .inl ⟨ht, hrun _ ht, .inl rfl⟩
    · rw [if_neg hlt] at hnx
      have hz : (tOf c (age + i)).place = 0 := by
        split at hnx <;> rw [hnx]
      have ht : tickS c (age + i) true k = ⟨1, (tOf c (age + i)).round, (tOf c (age + i)).slot, (tOf c (age + i)).place⟩ := by
        rw [tickS, if_pos hs, if_neg hlt]
        exact hbeg _ hz
      exact .inl ⟨ht, hrun _ ht, .inl rfl⟩
theorem go_end {c : Cfg} (h : newE c = 0) {age : Int} {k : Ck} {b : Bool} (hi : GoInv c age 800 k b) (h0 : 0 ≤ age) (h1 : age + 800 ≤ 1099511627776) (hl : c.long ≤ 300) : b = true := by
  rcases hi with ⟨_, _, _, _, h2⟩ | ⟨h2, _⟩
  · rcases h2 with h2 | ⟨_, h2⟩
    · cases h2
    · obtain ⟨_, _, _, _, ⟨p0, _⟩, _⟩ := tOf_back h (a := age) h0 (by omega)
      obtain ⟨_, _, _, _, ⟨_, p1⟩, _⟩ := tOf_back h (a := age + (800 - 1)) (by omega) (by omega)
      omega
  · exact h2
end Go.Proofs.YtmpkpikamogpdaaDoor.K
