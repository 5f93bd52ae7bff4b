/- Methods of a net: there, Given; without a net too. -/
import Derived.Test.YtbmbaalidehoeaaDoorMade
namespace Go.Proofs.YtbmbaalidehoeaaDoor.K
open Go.RowKit

/-- What a config that may be is like. -/
structure Bounds (c : Cfg) : Prop where
  n0 : 4 ≤ c.nodes
  n1 : c.nodes ≤ 16
  p0 : 2 ≤ c.pairs.length
  p1 : c.pairs.length ≤ 8
  s0 : 1 ≤ c.slots.length
  s1 : c.slots.length ≤ 16
  bl : (c.boots.length : Int) = c.nodes
  st1 : c.stations.length ≤ 8
  pin : ∀ a ∈ c.pairs, 0 ≤ a ∧ a < c.nodes
  lo : max (3 * c.nodes + 1) (c.nodes + 116) ≤ c.long
  l1 : c.long ≤ 4096
theorem must_zero {b : Bool} (h : mustE b = 0) : b = true := by
  cases b
  · simp [mustE] at h
  · rfl
theorem bounds_of {c : Cfg} (h : newE c = 0) : Bounds c := by
  have HALL := newE_zero h
  have l0 := within_zero (HALL 0 (by omega))
  have l1 := within_zero (HALL 1 (by omega))
  have l3 := within_zero (HALL 3 (by omega))
  have l5 := within_zero (HALL 5 (by omega))
  have l7 := within_zero (HALL 7 (by omega))
  refine ⟨l0.1, l0.2, by omega, by omega, by omega, by omega, ?_, by omega, ?_, l5.1, l5.2⟩
  · have := HALL 6 (by omega)
    by_cases h : (c.boots.length : Int) = c.nodes
    · exact h
    · have h' : ((c.boots.length : Int) == c.nodes) = false := by simpa using h
      simp [ruleE, rule7, h', mustE, first2] at this
  · have h3 := must_zero (HALL 2 (by omega))
    simp only [Bool.and_eq_true, Bool.not_eq_true'] at h3
    intro a ha
    have h5 := (List.any_eq_false.1 h3.1.1) a ha
    simp only [notIn, Bool.or_eq_true, decide_eq_true_eq, not_or] at h5
    omega

set_option maxHeartbeats 1000000 in
theorem there_any (p : Nat) (c : Cfg) (w : World) (h : NetAt w p c) :
    Calls Tryd.prog 62 #[.pointer (some ⟨p, 0, none⟩)] w fun e w' => e = .returned (.bool true) ∧ w = w' := by
  obtain ⟨hE, g, A1, A2, A3, A4, h0, _⟩ := h
  have hB := bounds_of hE
  have e1 := hB.n0
  have g9 := h0.cell 9
  simp at g9
  have hpl := h0.lt
  have e2 : 0 < c.nodes.toNat := by omega
  clear hB h0
  go_enter Tryd.func62, Tryd.ntmps62
  go_wp2
  go_ret
  exact ⟨ret_bool (by simp; omega), rfl⟩

set_option maxHeartbeats 1000000 in
theorem there_nil (w : World) :
    Calls Tryd.prog 62 #[.pointer none] w fun e w' => e = .returned (.bool false) ∧ w = w' := by
  go_enter Tryd.func62, Tryd.ntmps62
  go_wp2
  go_ret
  exact ⟨rfl, rfl⟩

theorem froz9 {w : World} {b : Nat} {cs : Array Value} {t : TypeId} (h : Blk w b t cs) :
    w.frozen? ⟨b, 0, none⟩ = false ∧ w.frozen? ⟨b, 1, none⟩ = false ∧ w.frozen? ⟨b, 2, none⟩ = false ∧ w.frozen? ⟨b, 3, none⟩ = false ∧ w.frozen? ⟨b, 4, none⟩ = false ∧ w.frozen? ⟨b, 5, none⟩ = false ∧ w.frozen? ⟨b, 6, none⟩ = false ∧ w.frozen? ⟨b, 7, none⟩ = false ∧ w.frozen? ⟨b, 8, none⟩ = false :=
  ⟨h.frozen 0, h.frozen 1, h.frozen 2, h.frozen 3, h.frozen 4, h.frozen 5, h.frozen 6, h.frozen 7, h.frozen 8⟩
theorem rdI_none {w : World} {A : Option Addr} {xs : List Int} (h : RdI w A xs) : A = none → xs.length = 0 := fun e => by
  subst e
  cases xs with
  | nil => rfl
  | cons x xs => obtain ⟨b, off, h1, _⟩ := h (by simp); cases h1
theorem rdV_none {w : World} {A : Option Addr} {xs : List Value} (h : RdV w A xs) : A = none → xs.length = 0 := fun e => by
  subst e
  cases xs with
  | nil => rfl
  | cons x xs => obtain ⟨b, off, h1, _⟩ := h (by simp); cases h1

set_option maxHeartbeats 4000000 in
theorem given_any (p : Nat) (c : Cfg) (w : World) (hs : Signs w) (h : NetAt w p c) :
    Calls Tryd.prog 26 #[.pointer (some ⟨p, 0, none⟩)] w fun e w' =>
      ∃ A1' A2' A3' A4', e = .returned (.agg #[.int .i64 c.nodes, .slice A1' c.pairs.length c.pairs.length, .slice A2' c.slots.length c.slots.length, .int .i64 c.long, .slice A3' c.boots.length c.boots.length, .slice A4' c.stations.length c.stations.length, .int .i64 c.miss, .int .i64 c.good, .int .i64 c.fresh]) ∧
        RdI w' A1' c.pairs ∧ RdI w' A2' c.slots ∧ RdI w' A3' c.boots ∧ RdV w' A4' (stnCells c.stations) ∧ Below w.heap.size w w' := by
  have H := Lib.hid h
  have hpl := h.lt
  obtain ⟨hE, g, A1, A2, A3, A4, h0, r1, r2, r3, r4, r5⟩ := h
  have hB := bounds_of hE
  obtain ⟨n, ps, ss, long, bs, st, miss, good, fresh⟩ := c
  dsimp only at *
  have g0 := h0.cell 0
  have g1 := h0.cell 1
  have g2 := h0.cell 2
  have g3 := h0.cell 3
  have g4 := h0.cell 4
  have g5 := h0.cell 5
  have g6 := h0.cell 6
  have g7 := h0.cell 7
  have g8 := h0.cell 8
  simp at g0 g1 g2 g3 g4 g5 g6 g7 g8
  have b1 := hB.p1
  have b2 := hB.s1
  have b3 : bs.length ≤ 16 := by have := hB.bl; have := hB.n1; dsimp only at *; omega
  have b4 := hB.st1
  dsimp only at b1 b2 b4
  have hc : CfgIn w A1 ps A2 ss A3 bs A4 st := ⟨hs, r1, r2, r3, r4, by omega, by omega, by omega, by omega, rdI_none r1, rdI_none r2, rdI_none r3, fun e => by have := rdV_none r4 e; rw [stnCells_length] at this; omega⟩
  have HC := Lib.hid hc
  clear hc r1 r2 r3 r4 r5 h0 hB hE hs
  go_enter Tryd.func26, Tryd.ntmps26
  go_wp2_with (first | (go_at_call 62; refine (there_any p _ _ (H.out.below ?_)).mono ?_; (repeat (first | (with_reducible exact Below.refl _ _) | (with_reducible refine Below.allocW ?_ _))); rintro e w' ⟨rfl, rfl⟩) | (go_at_call 18; refine (own_cfg n A1 _ ps A2 _ ss long A3 _ bs A4 _ st miss good fresh _ (HC.out.below ?_) (by omega) (by omega) (by omega) (by omega)).mono ?_; (repeat (first | (with_reducible exact Below.refl _ _) | (with_reducible refine Below.allocW ?_ _))); rintro e wo ⟨B1, B2, B3, B4, rfl, i1, i2, i3, i4, hfo, hbo⟩; have hk := (Blk.new_ w 25 #[.int .i64 0, .slice none 0 0, .slice none 0 0, .int .i64 0, .slice none 0 0, .slice none 0 0, .int .i64 0, .int .i64 0, .int .i64 0] rfl).below hbo; obtain ⟨k0, k1, k2, k3, k4, k5, k6, k7, k8⟩ := box9 hk; obtain ⟨f0, f1, f2, f3, f4, f5, f6, f7, f8⟩ := froz9 hk; have hkl := hk.lt; have I1 := Lib.hid i1; have I2 := Lib.hid i2; have I3 := Lib.hid i3; have I4 := Lib.hid i4; have HF := Lib.hid hfo; have HBO := Lib.hid hbo; clear i1 i2 i3 i4 hfo hbo hk))
  have hfo := HF.out
  have hn1 : ∀ a, B1 = some a ∨ B2 = some a ∨ B3 = some a ∨ B4 = some a → a.block ≠ w.heap.size := fun a h => by have := hfo a h; simp at this; omega
  refine bodyPost_ret (v := .agg #[.int .i64 n, .slice B1 ps.length ps.length, .slice B2 ss.length ss.length, .int .i64 long, .slice B3 bs.length bs.length, .slice B4 st.length st.length, .int .i64 miss, .int .i64 good, .int .i64 fresh]) (by simp [results, Tryd.results26, go_sem, k0, k1, k2, k3, k4, k5, k6, k7, k8]) rfl ⟨B1, B2, B3, B4, rfl, RdV.toI ?_, RdV.toI ?_, RdV.toI ?_, ?_, ?_⟩
  · repeat (first | (with_reducible exact I1.out) | (with_reducible refine RdV.far ?_ (fun a h => hn1 a (.inl h)) _))
  · repeat (first | (with_reducible exact I2.out) | (with_reducible refine RdV.far ?_ (fun a h => hn1 a (.inr (.inl h))) _))
  · repeat (first | (with_reducible exact I3.out) | (with_reducible refine RdV.far ?_ (fun a h => hn1 a (.inr (.inr (.inl h)))) _))
  · repeat (first | (with_reducible exact I4.out) | (with_reducible refine RdV.far ?_ (fun a h => hn1 a (.inr (.inr (.inr h)))) _))
  · have hb0 : Below w.heap.size w wo := Below.then_ ((Below.refl _ w).alloc (Nat.le_refl _) _) HBO.out
    repeat (first | (with_reducible exact hb0) | (with_reducible refine Below.setCell ?_ (by simp) _))

set_option maxHeartbeats 4000000 in
theorem given_nil (w : World) :
    Calls Tryd.prog 26 #[.pointer none] w fun e w' =>
      e = .returned (.agg #[.int .i64 0, .slice none 0 0, .slice none 0 0, .int .i64 0, .slice none 0 0, .slice none 0 0, .int .i64 0, .int .i64 0, .int .i64 0]) ∧ Below w.heap.size w w' := by
  go_enter Tryd.func26, Tryd.ntmps26
  go_wp2_with (first | (go_at_call 62; refine (there_nil _).mono ?_; rintro e w' ⟨rfl, rfl⟩))
  refine bodyPost_ret (v := .agg #[.int .i64 0, .slice none 0 0, .slice none 0 0, .int .i64 0, .slice none 0 0, .slice none 0 0, .int .i64 0, .int .i64 0, .int .i64 0]) (by simp [results, Tryd.results26, go_sem]) rfl ⟨rfl, ?_⟩
  repeat (first | (with_reducible exact Below.refl _ _) | (with_reducible refine Below.setCell ?_ (by simp) _) | (with_reducible refine Below.allocW ?_ _))
end Go.Proofs.YtbmbaalidehoeaaDoor.K
