/- A clock: New, begin, Tick, Slot. -/
import Derived.Test.YtmpkpikamogpdaaDoorClk3
import Derived.RegionTactic
import Derived.BigRegion
import Derived.Maps.AppendAt
namespace Go.Proofs.YtmpkpikamogpdaaDoor.K
open Go.RowKit

/-! ### only one block has turned (after the guide's page of small lemmas) -/
theorem only_drewN {a w : World} {g : Nat} (h : a.grownBy w (some g)) (n : Nat) : a.grownBy (w.drewN n) (some g) := ⟨h.os, h.tape, h.output, h.size, h.block⟩
theorem World.grownBy.drew_ {a w : World} {row : Option Nat} (h : a.grownBy w row) : a.grownBy w.drew row := ⟨h.os, h.tape, h.output, h.size, h.block⟩
theorem only_alloc {a w : World} {g : Nat} (h : a.grownBy w (some g)) (o : Obj) : a.grownBy (w.alloc o) (some g) :=
  ⟨h.os, h.tape, h.output, Nat.le_trans h.size (by simp), fun i hi hne => (Below.heap_alloc w o i (Nat.lt_of_lt_of_le hi h.size)).trans (h.block i hi hne)⟩
theorem only_setCell {a w : World} {g : Nat} (h : a.grownBy w (some g)) {p : Addr} (hp : p.block = g ∨ a.heap.size ≤ p.block) (u : Value) : a.grownBy (w.setCell p u) (some g) :=
  ⟨h.os, h.tape, h.output, by simpa [World.setCell] using h.size, fun i hi hne => (Below.heap_setCell w p u i (by
    rintro rfl
    rcases hp with hp | hp
    · exact hne (by rw [hp])
    · omega)).trans (h.block i hi hne)⟩
theorem only_below {a w w' : World} {g : Nat} (h : a.grownBy w (some g)) (hb : Below w.heap.size w w') : a.grownBy w' (some g) :=
  ⟨hb.os.trans h.os, hb.tape.trans h.tape, hb.output.trans h.output, Nat.le_trans h.size hb.size, fun i hi hne => (hb.block i (Nat.lt_of_lt_of_le hi h.size)).trans (h.block i hi hne)⟩
theorem only_then {a b c : World} {g : Nat} (h : a.grownBy b (some g)) (k : b.grownBy c (some g)) : a.grownBy c (some g) := World.grownBy.trans h k
theorem Blk.only {w w' : World} {g k : Nat} {t : TypeId} {cs : Array Value} (h : Blk w g t cs) (hb : w.grownBy w' (some k)) (hg : g ≠ k) : Blk w' g t cs := (hb.block g h.lt (by simpa using hg)).trans h
theorem below_only {W w w' : World} {B k : Nat} (h : Below B W w) (hb : w.grownBy w' (some k)) (hB : B ≤ w.heap.size) (hk : B ≤ k) : Below B W w' := h.grown hb hB fun j hj => by cases hj; exact hk

structure Ck where
  state : Int
  r : Int
  s : Int
  pl : Int
def Ck.cells (p : Nat) (k : Ck) : Array Value := #[.pointer (some ⟨p, 0, none⟩), .int .i64 k.state, .int .i64 k.r, .int .i64 k.s, .int .i64 k.pl]
def beginB (c : Cfg) (age : Int) (sure : Bool) : Bool := sure && !decide (outB age) && ((tOf c age).place == 0)
def beginS (c : Cfg) (age : Int) (sure : Bool) (k : Ck) : Ck := if beginB c age sure then ⟨1, (tOf c age).round, (tOf c age).slot, (tOf c age).place⟩ else ⟨0, k.r, k.s, k.pl⟩
theorem box5 {w : World} {b : Nat} {v0 v1 v2 v3 v4 : Value} {t : TypeId} (h : Blk w b t #[v0, v1, v2, v3, v4]) :
    w.cell? ⟨b, 0, none⟩ = some v0 ∧ w.cell? ⟨b, 1, none⟩ = some v1 ∧ w.cell? ⟨b, 2, none⟩ = some v2 ∧ w.cell? ⟨b, 3, none⟩ = some v3 ∧ w.cell? ⟨b, 4, none⟩ = some v4 := ⟨h.cell 0, h.cell 1, h.cell 2, h.cell 3, h.cell 4⟩
theorem froz5 {w : World} {b : Nat} {cs : Array Value} {t : TypeId} (h : Blk w b t cs) :
    w.frozen? ⟨b, 0, none⟩ = false ∧ w.frozen? ⟨b, 1, none⟩ = false ∧ w.frozen? ⟨b, 2, none⟩ = false ∧ w.frozen? ⟨b, 3, none⟩ = false ∧ w.frozen? ⟨b, 4, none⟩ = false := ⟨h.frozen 0, h.frozen 1, h.frozen 2, h.frozen 3, h.frozen 4⟩

set_option maxRecDepth 100000 in
set_option maxHeartbeats 8000000 in
theorem begin_any (p kb : Nat) (c : Cfg) (age : Int) (sure : Bool) (k : Ck) (W0 w : World) (hN : NetAt W0 p c) (hb : Below W0.heap.size W0 w) (hk : W0.heap.size ≤ kb) (hc : Blk w kb 93 (k.cells p)) :
    Calls Tryd.prog 56 #[.pointer (some ⟨kb, 0, none⟩), .int .i64 age, .bool sure] w fun e w' => e = .returned (.tuple #[]) ∧ Blk w' kb 93 ((beginS c age sure k).cells p) ∧ w.grownBy w' (some kb) := by
  obtain ⟨st, r, s, pl⟩ := k
  simp only [Ck.cells] at hc
  have HC := Lib.hid hc
  obtain ⟨y0, y1, y2, y3, y4⟩ := box5 hc
  obtain ⟨f0, f1, f2, f3, f4⟩ := froz5 hc
  have hlk := hc.lt
  have HO := Lib.hid (of_any p c age (w.setCell ⟨kb, 1, none⟩ (.int .i64 0)) (hN.below (hb.setCell hk _)))
  have HBG : Hid ((beginB c age sure = true → beginS c age sure ⟨st, r, s, pl⟩ = ⟨1, (tOf c age).round, (tOf c age).slot, (tOf c age).place⟩) ∧ (beginB c age sure = false → beginS c age sure ⟨st, r, s, pl⟩ = ⟨0, r, s, pl⟩)) := Lib.hid ⟨fun h => by rw [beginS, if_pos h], fun h => by rw [beginS, if_neg (by rw [h]; decide)]⟩
  obtain ⟨⟨tr, ts, tp⟩, ht⟩ : ∃ t, tOf c age = t := ⟨_, rfl⟩
  have hbb : beginB c age sure = (sure && !decide (outB age) && (tp == 0)) := by rw [beginB, ht]
  have hee : eOf age = if decide (outB age) then 1 else 0 := by simp [eOf]
  obtain ⟨ob, hob⟩ : ∃ ob, decide (outB age) = ob := ⟨_, rfl⟩
  rw [hob] at hbb hee
  rw [ht, hee] at HO
  rw [ht] at HBG
  simp only [Tm.V] at HO
  have HBB := Lib.hid hbb
  clear hc hN hb ht hbb hee hob
  go_enter Tryd.func56, Tryd.ntmps56
  go_wp2_with fail
  go_at_call 25
  refine (HO.out).mono ?_
  rintro e w1 ⟨rfl, hb1⟩
  have hk1 : Blk w1 kb 93 #[.pointer (some ⟨p, 0, none⟩), .int .i64 0, .int .i64 r, .int .i64 s, .int .i64 pl] := by
    have h1 := (HC.out.set_ 1 (.int .i64 0)).below hb1
    simpa using h1
  have HG : Hid (w.grownBy w1 (some kb)) := Lib.hid (only_below (only_setCell (World.grownBy.refl w _) (.inl rfl) _) hb1)
  have K1 := Lib.hid hk1
  clear y0 y1 y2 y3 y4 f0 f1 f2 f3 f4
  obtain ⟨y0, y1, y2, y3, y4⟩ := box5 hk1
  obtain ⟨f0, f1, f2, f3, f4⟩ := froz5 hk1
  have hl1 := hk1.lt
  have HBD : Hid (∀ (hno : beginB c age sure = false), (beginS c age sure ⟨st, r, s, pl⟩).cells p = #[.pointer (some ⟨p, 0, none⟩), .int .i64 0, .int .i64 r, .int .i64 s, .int .i64 pl]) := Lib.hid fun h => by rw [HBG.out.2 h]; rfl
  have HGD : Hid (∀ (hno : beginB c age sure = true), (beginS c age sure ⟨st, r, s, pl⟩).cells p = #[.pointer (some ⟨p, 0, none⟩), .int .i64 1, .int .i64 tr, .int .i64 ts, .int .i64 tp]) := Lib.hid fun h => by rw [HBG.out.1 h]; rfl
  clear hk1 hb1 HBG HO
  cases sure
  · cases ob
    all_goals
      go_wp2_with fail
      go_end0
      exact ⟨rfl, by rw [HBD.out (by rw [HBB.out]; rfl)]; exact K1.out.alloc _, only_alloc HG.out _⟩
  · cases ob
    · by_cases hz : tp = 0
      · subst hz
        have HGC := Lib.hid (HGD.out (by rw [HBB.out]; rfl))
        go_wp2_with fail
        go_region
        all_goals
          go_end0
          refine ⟨rfl, ?_, ?_⟩
          · rw [HGC.out]
            have h1 := (((K1.out.set_ 1 (.int .i64 1)).set_ 2 (.int .i64 tr)).set_ 3 (.int .i64 ts)).set_ 4 (.int .i64 0)
            simp at h1
            exact (h1.alloc _).drewN 1
          · repeat (first | (with_reducible exact HG.out) | (with_reducible refine World.grownBy.drew_ ?_) | (with_reducible refine only_drewN ?_ _) | (with_reducible refine only_alloc ?_ _) | (with_reducible refine only_setCell ?_ (.inl rfl) _))
      · have hz' : (tp == 0) = false := by simpa using hz
        have HZ := Lib.hid hz'
        go_wp2_with fail
        go_end0
        exact ⟨rfl, by rw [HBD.out (by rw [HBB.out, HZ.out]; rfl)]; exact K1.out.alloc _, only_alloc HG.out _⟩
    · go_wp2_with fail
      go_end0
      exact ⟨rfl, by rw [HBD.out (by rw [HBB.out]; rfl)]; exact K1.out.alloc _, only_alloc HG.out _⟩

/-- A tick: the clock behind it. -/
def tickS (c : Cfg) (age : Int) (sure : Bool) (k : Ck) : Ck :=
  if k.state = 1 then if k.pl + 1 < c.long then ⟨1, k.r, k.s, k.pl + 1⟩ else beginS c age sure ⟨2, k.r, k.s, k.pl + 1⟩ else beginS c age sure k
def tickV (k : Ck) : Value := if k.state = 1 then .tuple #[.agg #[.int .i64 k.r, .int .i64 k.s, .int .i64 k.pl], .bool true] else .tuple #[.agg #[.int .i64 0, .int .i64 0, .int .i64 0], .bool false]
theorem beginS_state (c : Cfg) (age : Int) (sure : Bool) (k : Ck) : (beginS c age sure k).state = 0 ∨ (beginS c age sure k).state = 1 := by
  unfold beginS
  split
  · exact .inr rfl
  · exact .inl rfl

set_option maxRecDepth 100000 in
set_option maxHeartbeats 8000000 in
theorem tick_any (p kb : Nat) (c : Cfg) (age : Int) (sure : Bool) (k : Ck) (W0 w : World) (hN : NetAt W0 p c) (hb : Below W0.heap.size W0 w) (hk : W0.heap.size ≤ kb) (hc : Blk w kb 93 (k.cells p)) (hst : k.state = 0 ∨ k.state = 1) (hpl : 0 ≤ k.pl ∧ k.pl ≤ 4096) :
    Calls Tryd.prog 33 #[.pointer (some ⟨kb, 0, none⟩), .int .i64 age, .bool sure] w fun e w' => e = .returned (tickV (tickS c age sure k)) ∧ Blk w' kb 93 ((tickS c age sure k).cells p) ∧ w.grownBy w' (some kb) := by
  obtain ⟨st, r, s, pl⟩ := k
  simp only [Ck.cells] at hc
  dsimp only at hst hpl
  obtain ⟨hp0, hp1⟩ := hpl
  have HC := Lib.hid hc
  have HN := Lib.hid hN
  have HB := Lib.hid hb
  obtain ⟨y0, y1, y2, y3, y4⟩ := box5 hc
  obtain ⟨f0, f1, f2, f3, f4⟩ := froz5 hc
  have hlk := hc.lt
  have hkn := hN.lt
  have hpk : p ≠ kb := by omega
  obtain ⟨_, g, A1, A2, A3, A4, k0, _⟩ := hN.below hb
  have n3 := k0.cell 3
  simp at n3
  have hln := k0.lt
  obtain ⟨L, eL⟩ : ∃ L, c.long = L := ⟨_, rfl⟩
  rw [eL] at n3
  have EL := Lib.hid eL
  clear k0 hc hN hb eL
  have HBW : Hid (Below W0.heap.size W0 (w.alloc (.cells #[.int .i64 0, .int .i64 0, .int .i64 0] 64))) := Lib.hid (HB.out.alloc HB.out.size _)
  rcases hst with rfl | rfl
  · have HBE := Lib.hid (begin_any p kb c age sure ⟨0, r, s, pl⟩ W0 (w.alloc (.cells #[.int .i64 0, .int .i64 0, .int .i64 0] 64)) HN.out HBW.out hk (HC.out.alloc _))
    have hT : tickS c age sure ⟨0, r, s, pl⟩ = beginS c age sure ⟨0, r, s, pl⟩ := by rw [tickS, if_neg (by dsimp only; decide)]
    have hS := beginS_state c age sure ⟨0, r, s, pl⟩
    obtain ⟨⟨st', r', s', pl'⟩, hq⟩ : ∃ k', beginS c age sure ⟨0, r, s, pl⟩ = k' := ⟨_, rfl⟩
    rw [hq] at HBE hT hS
    have HT := Lib.hid hT
    dsimp only at hS
    clear hq hT
    go_enter Tryd.func33, Tryd.ntmps33
    go_wp2_with fail
    go_at_call 56
    refine (HBE.out).mono ?_
    rintro e w1 ⟨rfl, hk1, hg1⟩
    simp only [Ck.cells] at hk1
    have hne : w.heap.size ≠ kb := by omega
    have ht1 : Blk w1 w.heap.size 64 #[.int .i64 0, .int .i64 0, .int .i64 0] := (Blk.new_ w _ _ rfl).only hg1 hne
    have hl1 := hk1.lt
    have hl2 := ht1.lt
    clear y0 y1 y2 y3 y4 f0 f1 f2 f3 f4
    obtain ⟨y0, y1, y2, y3, y4⟩ := box5 hk1
    obtain ⟨x0, x1, x2⟩ := box3 ht1
    have g0 := ht1.frozen 0
    have g1 := ht1.frozen 1
    have g2 := ht1.frozen 2
    have K1 := Lib.hid hk1
    have HG : Hid (w.grownBy w1 (some kb)) := Lib.hid (only_then (only_alloc (World.grownBy.refl w _) _) hg1)
    clear hk1 ht1 hg1
    rcases hS with rfl | rfl
    · go_wp2_with fail
      refine bodyPost_ret (v := .tuple #[.agg #[.int .i64 0, .int .i64 0, .int .i64 0], .bool false]) (by simp [results, Tryd.results33, go_sem, x0, x1, x2]) rfl ⟨?_, ?_, ?_⟩
      · rw [HT.out]; rfl
      · rw [HT.out]
        simp only [Ck.cells]
        repeat (first | (with_reducible exact K1.out) | (with_reducible refine Blk.far ?_ (by dsimp only; omega) _))
      · repeat (first | (with_reducible exact HG.out) | (with_reducible refine only_setCell ?_ (.inr (by dsimp only; omega)) _))
    · go_wp2_with fail
      refine bodyPost_ret (v := .tuple #[.agg #[.int .i64 r', .int .i64 s', .int .i64 pl'], .bool true]) (by simp [results, Tryd.results33, go_sem, x0, x1, x2]) rfl ⟨?_, ?_, ?_⟩
      · rw [HT.out]; rfl
      · rw [HT.out]
        simp only [Ck.cells]
        repeat (first | (with_reducible exact K1.out) | (with_reducible refine Blk.far ?_ (by dsimp only; omega) _))
      · repeat (first | (with_reducible exact HG.out) | (with_reducible refine only_setCell ?_ (.inr (by dsimp only; omega)) _))
  · by_cases hlt : pl + 1 < L
    · have hT : tickS c age sure ⟨1, r, s, pl⟩ = ⟨1, r, s, pl + 1⟩ := by rw [tickS, if_pos rfl, if_pos (by rw [EL.out]; exact hlt)]
      have HT := Lib.hid hT
      clear hT
      go_enter Tryd.func33, Tryd.ntmps33
      go_wp2_with fail
      go_quiet (fail)
      rename_i nq
      go_wp2_with fail
      have KW : Hid (Blk (w.setCell ⟨kb, 4, none⟩ (.int .i64 (pl + 1))) kb 93 #[.pointer (some ⟨p, 0, none⟩), .int .i64 1, .int .i64 r, .int .i64 s, .int .i64 (pl + 1)]) := Lib.hid (by simpa using HC.out.set_ 4 (.int .i64 (pl + 1)))
      have HG : Hid (w.grownBy (w.setCell ⟨kb, 4, none⟩ (.int .i64 (pl + 1))) (some kb)) := Lib.hid (only_setCell (World.grownBy.refl w _) (.inl rfl) _)
      refine bodyPost_ret (v := .tuple #[.agg #[.int .i64 r, .int .i64 s, .int .i64 (pl + 1)], .bool true]) (by simp [results, Tryd.results33, go_sem]) rfl ⟨?_, ?_, ?_⟩
      · rw [HT.out]; rfl
      · rw [HT.out]
        simp only [Ck.cells]
        repeat (first | (with_reducible exact KW.out) | (with_reducible refine Blk.drewN ?_ _) | (with_reducible refine Blk.alloc ?_ _) | (with_reducible refine Blk.far ?_ (by dsimp only; omega) _))
      · repeat (first | (with_reducible exact HG.out) | (with_reducible refine only_drewN ?_ _) | (with_reducible refine only_alloc ?_ _) | (with_reducible refine only_setCell ?_ (.inr (by dsimp only; omega)) _))
    · have hT : tickS c age sure ⟨1, r, s, pl⟩ = beginS c age sure ⟨2, r, s, pl + 1⟩ := by rw [tickS, if_pos rfl, if_neg (by rw [EL.out]; exact hlt)]
      have hS := beginS_state c age sure ⟨2, r, s, pl + 1⟩
      obtain ⟨⟨st', r', s', pl'⟩, hq⟩ : ∃ k', beginS c age sure ⟨2, r, s, pl + 1⟩ = k' := ⟨_, rfl⟩
      have HBE := Lib.hid fun (W : World) (hW : Below W0.heap.size W0 W) (kW : Blk W kb 93 (Ck.cells p ⟨2, r, s, pl + 1⟩)) => begin_any p kb c age sure ⟨2, r, s, pl + 1⟩ W0 W HN.out hW hk kW
      rw [hq] at HBE hT hS
      have HT := Lib.hid hT
      dsimp only at hS
      clear hq hT
      go_enter Tryd.func33, Tryd.ntmps33
      go_wp2_with fail
      go_quiet (fail)
      rename_i nq
      go_wp2_with fail
      go_at_call 56
      refine gen_world (fun V => Hid (Blk V kb 93 (Ck.cells p ⟨2, r, s, pl + 1⟩)) ∧ Hid (Blk V w.heap.size 64 #[.int .i64 0, .int .i64 0, .int .i64 0]) ∧ Hid (Below W0.heap.size W0 V) ∧ Hid (w.grownBy V (some kb))) ⟨?_, ?_, ?_, ?_⟩ ?_
      · exact Lib.hid (by simpa [Ck.cells] using (((HC.out.set_ 4 (.int .i64 (pl + 1))).alloc (.cells #[.int .i64 0, .int .i64 0, .int .i64 0] 64)).drewN nq).set_ 1 (.int .i64 2))
      · exact Lib.hid (Blk.far ((Blk.new_ (w.setCell ⟨kb, 4, none⟩ (.int .i64 (pl + 1))) _ _ (by simp)).drewN nq) (by dsimp only; omega) _)
      · exact Lib.hid ((below_drewN ((HB.out.setCell hk _).alloc (by simpa using HB.out.size) _) nq).setCell hk _)
      · have g0 : w.grownBy (w.setCell ⟨kb, 4, none⟩ (.int .i64 (pl + 1))) (some kb) := only_setCell (World.grownBy.refl w _) (.inl rfl) _
        have g1 := only_drewN (only_alloc g0 (.cells #[.int .i64 0, .int .i64 0, .int .i64 0] 64)) nq
        exact Lib.hid (only_setCell (p := ⟨kb, 1, none⟩) g1 (.inl rfl) _)
      rintro V ⟨KV, TV, BV, GV⟩
      refine (HBE.out V BV.out KV.out).mono ?_
      rintro e w1 ⟨rfl, hk1, hg1⟩
      simp only [Ck.cells] at hk1
      have hne : w.heap.size ≠ kb := by omega
      have ht1 : Blk w1 w.heap.size 64 #[.int .i64 0, .int .i64 0, .int .i64 0] := TV.out.only hg1 hne
      have hl1 := hk1.lt
      have hl2 := ht1.lt
      clear y0 y1 y2 y3 y4 f0 f1 f2 f3 f4
      obtain ⟨y0, y1, y2, y3, y4⟩ := box5 hk1
      obtain ⟨x0, x1, x2⟩ := box3 ht1
      have g0 := ht1.frozen 0
      have g1 := ht1.frozen 1
      have g2 := ht1.frozen 2
      have K1 := Lib.hid hk1
      have HG : Hid (w.grownBy w1 (some kb)) := Lib.hid (only_then GV.out hg1)
      clear hk1 ht1 hg1
      rcases hS with rfl | rfl
      · go_wp2_with fail
        refine bodyPost_ret (v := .tuple #[.agg #[.int .i64 0, .int .i64 0, .int .i64 0], .bool false]) (by simp [results, Tryd.results33, go_sem, x0, x1, x2]) rfl ⟨?_, ?_, ?_⟩
        · rw [HT.out]; rfl
        · rw [HT.out]
          simp only [Ck.cells]
          repeat (first | (with_reducible exact K1.out) | (with_reducible refine Blk.far ?_ (by dsimp only; omega) _))
        · repeat (first | (with_reducible exact HG.out) | (with_reducible refine only_setCell ?_ (.inr (by dsimp only; omega)) _))
      · go_wp2_with fail
        refine bodyPost_ret (v := .tuple #[.agg #[.int .i64 r', .int .i64 s', .int .i64 pl'], .bool true]) (by simp [results, Tryd.results33, go_sem, x0, x1, x2]) rfl ⟨?_, ?_, ?_⟩
        · rw [HT.out]; rfl
        · rw [HT.out]
          simp only [Ck.cells]
          repeat (first | (with_reducible exact K1.out) | (with_reducible refine Blk.far ?_ (by dsimp only; omega) _))
        · repeat (first | (with_reducible exact HG.out) | (with_reducible refine only_setCell ?_ (.inr (by dsimp only; omega)) _))

set_option maxHeartbeats 1000000 in
theorem clkNew_any (p : Nat) (c : Cfg) (w : World) (h : NetAt w p c) :
    Calls Tryd.prog 32 #[.pointer (some ⟨p, 0, none⟩)] w fun e w' => ∃ q, e = .returned (.pointer (some ⟨w.heap.size, 0, none⟩)) ∧ (w.drewN q).alloc (.cells #[.pointer (some ⟨p, 0, none⟩), .int .i64 0, .int .i64 0, .int .i64 0, .int .i64 0] 93) = w' := by
  have hB := rb_of h.1
  have HR := Lib.hid (round_any' p c w h)
  obtain ⟨R, eR⟩ : ∃ R, roundT c = R := ⟨_, rfl⟩
  have r0 := hB.r0
  rw [eR] at HR r0
  have hRn : (R == 0) = false := by simp; omega
  clear eR h hB
  go_enter Tryd.func32, Tryd.ntmps32
  go_wp2_with fail
  go_at_call 52
  refine (HR.out).mono ?_
  rintro e w1 ⟨rfl, q, rfl⟩
  go_wp2_with fail
  go_ret
  exact ⟨q, rfl, rfl⟩
set_option maxHeartbeats 1000000 in
theorem clkNew_bare (v : Value) (w : World) (h : BareAt w v) :
    Calls Tryd.prog 32 #[v] w fun e w' => e = .returned (.pointer none) ∧ w = w' := by
  have HR := Lib.hid (round_bare v w h)
  clear h
  go_enter Tryd.func32, Tryd.ntmps32
  go_wp2_with (go_at_call 52; refine (HR.out).mono ?_; rintro e w1 ⟨rfl, rfl⟩)
  go_ret
  exact ⟨rfl, rfl⟩
end Go.Proofs.YtmpkpikamogpdaaDoor.K
