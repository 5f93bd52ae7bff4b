/- clocks.Of, Age, Ahead by a net. -/
import Derived.Test.YtmpkpikamogpdaaDoorClk
namespace Go.Proofs.YtmpkpikamogpdaaDoor.K
open Go.RowKit

/-- A time. -/
structure Tm where
  round : Int
  slot : Int
  place : Int
def Tm.V (t : Tm) : Value := .agg #[.int .i64 t.round, .int .i64 t.slot, .int .i64 t.place]
def outB (age : Int) : Prop := age < 0 ∨ 1099511627776 < age
instance (age : Int) : Decidable (outB age) := by unfold outB; infer_instance
def tOf (c : Cfg) (age : Int) : Tm := if outB age then ⟨0, 0, 0⟩ else ⟨age / roundT c, age % roundT c / c.long, age % roundT c % c.long⟩
def eOf (age : Int) : Int := if outB age then 1 else 0

theorem box3 {w : World} {b : Nat} {v0 v1 v2 : Value} {t : TypeId} (h : Blk w b t #[v0, v1, v2]) :
    w.cell? ⟨b, 0, none⟩ = some v0 ∧ w.cell? ⟨b, 1, none⟩ = some v1 ∧ w.cell? ⟨b, 2, none⟩ = some v2 := ⟨h.cell 0, h.cell 1, h.cell 2⟩

set_option maxHeartbeats 1000000 in
theorem long_any (p : Nat) (c : Cfg) (w : World) (h : NetAt w p c) :
    Calls Tryd.prog 53 #[.pointer (some ⟨p, 0, none⟩)] w fun e w' => e = .returned (.int .i64 c.long) ∧ w = w' := by
  obtain ⟨hE, g, A1, A2, A3, A4, h0, _⟩ := h
  have g3 := h0.cell 3
  simp at g3
  have hpl := h0.lt
  clear h0 hE
  go_enter Tryd.func53, Tryd.ntmps53
  go_wp2
  go_ret
  exact ⟨rfl, rfl⟩

set_option maxRecDepth 100000 in
set_option maxHeartbeats 4000000 in
theorem of_any (p : Nat) (c : Cfg) (age : Int) (w : World) (h : NetAt w p c) :
    Calls Tryd.prog 25 #[.pointer (some ⟨p, 0, none⟩), .int .i64 age] w fun e w' => e = .returned (.tuple #[(tOf c age).V, .int .i64 (eOf age)]) ∧ Below w.heap.size w w' := by
  have H := Lib.hid h
  have hB := rb_of h.1
  have HR := Lib.hid fun (W : World) (hb : Below w.heap.size w W) => round_any' p c W (h.below hb)
  have HL := Lib.hid fun (W : World) (hb : Below w.heap.size w W) => long_any p c W (h.below hb)
  clear h
  obtain ⟨m0, m1, l0, l1, r0, r1, rl⟩ := hB
  have HT : Hid (∀ R L : Int, roundT c = R → c.long = L → ¬ outB age → tOf c age = ⟨age / R, age % R / L, age % R % L⟩) := Lib.hid (by rintro R L rfl rfl h; rw [tOf, if_neg h])
  obtain ⟨R, eR⟩ : ∃ R, roundT c = R := ⟨_, rfl⟩
  obtain ⟨L, eL⟩ : ∃ L, c.long = L := ⟨_, rfl⟩
  rw [eR] at HR r0 r1 rl
  rw [eL] at HL l0 l1 rl
  have ER := Lib.hid eR
  have EL := Lib.hid eL
  clear eR eL
  have hRn : (R == 0) = false := by simp; omega
  by_cases h0 : age < 0
  · have HO : Hid (outB age) := Lib.hid (.inl h0)
    go_enter Tryd.func25, Tryd.ntmps25
    go_wp2_with fail
    go_at_call 52
    refine (HR.out _ (ba _ _)).mono ?_
    rintro e w1 ⟨rfl, q, rfl⟩
    go_wp2_with fail
    refine bodyPost_ret (v := .tuple #[.agg #[.int .i64 0, .int .i64 0, .int .i64 0], .int .i64 1]) (by simp [results, Tryd.results25, go_sem]) rfl ⟨?_, ?_⟩
    · rw [tOf, if_pos HO.out, eOf, if_pos HO.out]; rfl
    · repeat (first | (with_reducible exact ba _ _) | (with_reducible refine below_drewN ?_ _) | (with_reducible refine Below.setCell ?_ (by simp) _) | (with_reducible refine Below.allocW ?_ _))
  · by_cases h1 : 1099511627776 < age
    · have HO : Hid (outB age) := Lib.hid (.inr h1)
      go_enter Tryd.func25, Tryd.ntmps25
      go_wp2_with fail
      go_at_call 52
      refine (HR.out _ (ba _ _)).mono ?_
      rintro e w1 ⟨rfl, q, rfl⟩
      go_wp2_with fail
      refine bodyPost_ret (v := .tuple #[.agg #[.int .i64 0, .int .i64 0, .int .i64 0], .int .i64 1]) (by simp [results, Tryd.results25, go_sem]) rfl ⟨?_, ?_⟩
      · rw [tOf, if_pos HO.out, eOf, if_pos HO.out]; rfl
      · repeat (first | (with_reducible exact ba _ _) | (with_reducible refine below_drewN ?_ _) | (with_reducible refine Below.setCell ?_ (by simp) _) | (with_reducible refine Below.allocW ?_ _))
    · have HO : Hid (¬ outB age) := Lib.hid (fun h => by rcases h with h | h <;> omega)
      go_enter Tryd.func25, Tryd.ntmps25
      go_wp2_with fail
      go_at_call 52
      refine (HR.out _ (ba _ _)).mono ?_
      rintro e w1 ⟨rfl, q, rfl⟩
      go_wp2_with fail
      obtain ⟨F, eF⟩ : ∃ F, age % R = F := ⟨_, rfl⟩
      have hF : 0 ≤ F ∧ F < R := by rw [← eF]; exact ⟨Int.emod_nonneg _ (by omega), Int.emod_lt_of_pos _ (by omega)⟩
      obtain ⟨hF0, hF1⟩ := hF
      rw [eF]
      have EF := Lib.hid eF
      clear eF
      refine gen_wp (fun V => Hid (Blk V w.heap.size 64 #[.int .i64 0, .int .i64 0, .int .i64 0]) ∧ Hid (Below w.heap.size w V)) ⟨Lib.hid (Blk.new_ w _ _ rfl), Lib.hid (below_drewN (ba _ _) _)⟩ ?_
      rintro V ⟨KV, HV⟩
      have hlB := KV.out.lt
      have f0 := KV.out.frozen 0
      have f1 := KV.out.frozen 1
      have f2 := KV.out.frozen 2
      obtain ⟨y0, y1, y2⟩ := box3 KV.out
      have hR0 : ¬ R = 0 := by omega
      have hL0 : ¬ L = 0 := by omega
      obtain ⟨Q1, e1⟩ : ∃ Q, age / R = Q := ⟨_, rfl⟩
      obtain ⟨Q2, e2⟩ : ∃ Q, F / L = Q := ⟨_, rfl⟩
      obtain ⟨Q3, e3⟩ : ∃ Q, F % L = Q := ⟨_, rfl⟩
      have g1 := (IntWalk.i64_quo age R ⟨by omega, by omega, by omega⟩).trans e1
      have g2 := (IntWalk.i64_quo F L ⟨by omega, by omega, by omega⟩).trans e2
      have g3 := (Int.tmod_eq_emod_of_nonneg (by omega) : F.tmod L = F % L).trans e3
      have HV2 : Hid (tOf c age = ⟨Q1, Q2, Q3⟩) := Lib.hid (by rw [HT.out R L ER.out EL.out HO.out, EF.out, e1, e2, e3])
      clear e1 e2 e3
      refine wp_tail 12 (by kernel_rfl) (by kernel_rfl) ?_
      simp only [List.take_succ_cons, List.take_zero, List.drop_succ_cons, List.drop_zero]
      repeat still_step
      still_call (still_of (HL.out _ (by exact HV.out.drew)))
      repeat still_step
      still_call (still_of (HL.out _ (by exact HV.out.drew)))
      repeat still_step
      refine wpStill_nil ?_
      go_wp2_with fail
      refine bodyPost_ret (v := .tuple #[.agg #[.int .i64 Q1, .int .i64 Q2, .int .i64 Q3], .int .i64 0]) (by simp [results, Tryd.results25, go_sem, y0, y1, y2]) rfl ⟨?_, ?_⟩
      · rw [HV2.out, eOf, if_neg HO.out]; rfl
      · repeat (first | (with_reducible exact HV.out) | (with_reducible refine Below.drew ?_) | (with_reducible refine Below.setCell ?_ (by simp) _))
end Go.Proofs.YtmpkpikamogpdaaDoor.K
