/- configs.own: a config in new memory. -/
import Derived.Test.YtbmbaalidehoeaaDoorClone
namespace Go.Proofs.YtbmbaalidehoeaaDoor.K
open Go.RowKit

/-- A config's slices, in memory. -/
structure Sl where
  A : Option Addr
  n : Nat
  c : Nat
def Sl.v (s : Sl) : Value := .slice s.A s.n s.c
/-- It reads as these cells ('k' of them an element), and is one that Go may have. -/
def Sl.Ok (w : World) (s : Sl) (k : Nat) (cs : List Value) : Prop := cs.length = s.n * k ∧ RdV w s.A cs ∧ (s.A = none → s.n = 0) ∧ s.n ≤ 4398046511104 ∧ (∀ u ∈ cs, u.oneCell' = true)
theorem Sl.Ok.below {w w' : World} {s : Sl} {k : Nat} {cs : List Value} (h : s.Ok w k cs) (hb : Below w.heap.size w w') : s.Ok w' k cs := ⟨h.1, h.2.1.below hb, h.2.2⟩

theorem hne_of {a b : Nat} (h : b + 1 < a) : a ≠ b ∧ a ≠ b + 1 := ⟨by omega, by omega⟩

set_option maxRecDepth 100000 in
set_option maxHeartbeats 4000000 in
theorem own_any (n long miss good fresh : Int) (A1 A2 A3 A4 : Option Addr) (n1 n2 n3 n4 c1 c2 c3 c4 : Nat) (C1 C2 C3 C4 : List Value) (w : World)
    (h1 : Sl.Ok w ⟨A1, n1, c1⟩ 1 C1) (h2 : Sl.Ok w ⟨A2, n2, c2⟩ 1 C2) (h3 : Sl.Ok w ⟨A3, n3, c3⟩ 1 C3) (h4 : Sl.Ok w ⟨A4, n4, c4⟩ 3 C4) :
    Calls Tryd.prog 18 #[.agg #[.int .i64 n, .slice A1 n1 c1, .slice A2 n2 c2, .int .i64 long, .slice A3 n3 c3, .slice A4 n4 c4, .int .i64 miss, .int .i64 good, .int .i64 fresh]] w fun e w' =>
      ∃ A1' A2' A3' A4', e = .returned (.agg #[.int .i64 n, .slice A1' n1 n1, .slice A2' n2 n2, .int .i64 long, .slice A3' n3 n3, .slice A4' n4 n4, .int .i64 miss, .int .i64 good, .int .i64 fresh]) ∧
        RdV w' A1' C1 ∧ RdV w' A2' C2 ∧ RdV w' A3' C3 ∧ RdV w' A4' C4 ∧ (∀ a, A1' = some a ∨ A2' = some a ∨ A3' = some a ∨ A4' = some a → w.heap.size ≤ a.block) ∧ Below w.heap.size w w' := by
  have H1 := Lib.hid h1
  have H2 := Lib.hid h2
  have H3 := Lib.hid h3
  have H4 := Lib.hid h4
  clear h1 h2 h3 h4
  go_enter Tryd.func18, Tryd.ntmps18
  go_wp2
  refine wp_loop_rounds 4 ?_
  rw [rounds_succ]
  go_wp2_with fail
  refine gen_world (fun W => Blk W w.heap.size 25 #[(.int .i64 n), (.slice A1 n1 c1), (.slice A2 n2 c2), (.int .i64 long), (.slice A3 n3 c3), (.slice A4 n4 c4), (.int .i64 miss), (.int .i64 good), (.int .i64 fresh)] ∧ Blk W (w.heap.size + 1) 25 #[.int .i64 0, .slice none 0 0, .slice none 0 0, .int .i64 0, .slice none 0 0, .slice none 0 0, .int .i64 0, .int .i64 0, .int .i64 0] ∧ Blk W (w.heap.size + 1 + 1) 96 #[.pointer (some ⟨w.heap.size, 1, none⟩), .pointer (some ⟨w.heap.size, 2, none⟩), .pointer (some ⟨w.heap.size, 4, none⟩)] ∧ Below w.heap.size w W) ⟨((Blk.new_ w _ _ rfl).alloc _).alloc _, (Blk.new_ (w.alloc _) _ _ (by simp)).alloc _, Blk.new_ ((w.alloc _).alloc _) _ _ (by simp), (((Below.refl _ w).alloc (Nat.le_refl _) _).alloc (by simp) _).alloc (by simp; omega) _⟩ ?_
  rintro W1 ⟨k0, k1, k2, hb⟩
  have hd := H1.out.below hb
  refine (cloneI_any A1 c1 C1 n1 W1 hd.1 hd.2.2.2.2 hd.2.1 hd.2.2.1 hd.2.2.2.1).mono ?_
  rintro e w1 ⟨A1', d1, rfl, hcap1, _, hR1, hF1, hb1⟩
  have hz1 : w.heap.size + 1 + 1 < W1.heap.size := k2.lt
  replace k0 := k0.below hb1
  replace k1 := k1.below hb1
  replace k2 := k2.below hb1
  have j1 := Lib.hid hR1
  have hG1 : ∀ a, A1' = some a → w.heap.size + 1 < a.block := fun a h => by have := hF1 a h; omega
  have HG1 := Lib.hid hG1
  clear hG1
  have HB := Lib.hid (Below.trans hb (hb1.mono hb.size))
  have g1 := k0.cell 1
  have g2 := k0.frozen 1
  have g3 := k0.cell 2
  have p1 := k2.cell 1
  have p2 := k2.cell 2
  have hsz : w.heap.size + 1 + 1 < w1.heap.size := k2.lt
  simp at g1 g3 p1 p2
  have K0 := Lib.hid k0
  have K1 := Lib.hid k1
  have K2 := Lib.hid k2
  clear k0 k1 k2 hR1 hb1 hb hd hF1
  go_wp2_with (first | (go_at_call 56; refine (clipI_any _ _ _ _ hcap1).mono ?_; rintro e w' ⟨rfl, rfl⟩) | fail)
  rw [rounds_succ]
  go_wp2_with fail
  refine gen_world (fun W => Blk W w.heap.size 25 #[(.int .i64 n), (.slice A1' n1 n1), (.slice A2 n2 c2), (.int .i64 long), (.slice A3 n3 c3), (.slice A4 n4 c4), (.int .i64 miss), (.int .i64 good), (.int .i64 fresh)] ∧ Blk W (w.heap.size + 1) 25 #[.int .i64 0, .slice none 0 0, .slice none 0 0, .int .i64 0, .slice none 0 0, .slice none 0 0, .int .i64 0, .int .i64 0, .int .i64 0] ∧ Blk W (w.heap.size + 1 + 1) 96 #[.pointer (some ⟨w.heap.size, 1, none⟩), .pointer (some ⟨w.heap.size, 2, none⟩), .pointer (some ⟨w.heap.size, 4, none⟩)] ∧ Below w.heap.size w W ∧ RdV W A1' C1) ⟨K0.out.set_ 1 _, K1.out.far (by show w.heap.size + 1 ≠ w.heap.size; omega) _, K2.out.far (by show w.heap.size + 1 + 1 ≠ w.heap.size; omega) _, HB.out.setCell (Nat.le_refl _) _, j1.out.far (fun a h => (hne_of (HG1.out a h)).1) _⟩ ?_
  clear K0 K1 K2 g1 g2 g3 p1 p2 hsz HB j1
  rintro W2 ⟨k0, k1, k2, hb, i1⟩
  have hd := H2.out.below hb
  refine (cloneI_any A2 c2 C2 n2 W2 hd.1 hd.2.2.2.2 hd.2.1 hd.2.2.1 hd.2.2.2.1).mono ?_
  rintro e w2 ⟨A2', d2, rfl, hcap2, _, hR2, hF2, hb2⟩
  have hz2 : w.heap.size + 1 + 1 < W2.heap.size := k2.lt
  replace k0 := k0.below hb2
  replace k1 := k1.below hb2
  replace k2 := k2.below hb2
  have j1 := Lib.hid (i1.below hb2)
  have j2 := Lib.hid hR2
  have hG2 : ∀ a, A2' = some a → w.heap.size + 1 < a.block := fun a h => by have := hF2 a h; omega
  have HG2 := Lib.hid hG2
  clear hG2
  have HB := Lib.hid (Below.trans hb (hb2.mono hb.size))
  have g1 := k0.cell 2
  have g2 := k0.frozen 2
  have g3 := k0.cell 4
  have p1 := k2.cell 1
  have p2 := k2.cell 2
  have hsz : w.heap.size + 1 + 1 < w2.heap.size := k2.lt
  simp at g1 g3 p1 p2
  have K0 := Lib.hid k0
  have K1 := Lib.hid k1
  have K2 := Lib.hid k2
  clear k0 k1 k2 hR2 hb2 hb hd hF2 i1
  go_wp2_with (first | (go_at_call 56; refine (clipI_any _ _ _ _ hcap2).mono ?_; rintro e w' ⟨rfl, rfl⟩) | fail)
  rw [rounds_succ]
  go_wp2_with fail
  refine gen_world (fun W => Blk W w.heap.size 25 #[(.int .i64 n), (.slice A1' n1 n1), (.slice A2' n2 n2), (.int .i64 long), (.slice A3 n3 c3), (.slice A4 n4 c4), (.int .i64 miss), (.int .i64 good), (.int .i64 fresh)] ∧ Blk W (w.heap.size + 1) 25 #[.int .i64 0, .slice none 0 0, .slice none 0 0, .int .i64 0, .slice none 0 0, .slice none 0 0, .int .i64 0, .int .i64 0, .int .i64 0] ∧ Blk W (w.heap.size + 1 + 1) 96 #[.pointer (some ⟨w.heap.size, 1, none⟩), .pointer (some ⟨w.heap.size, 2, none⟩), .pointer (some ⟨w.heap.size, 4, none⟩)] ∧ Below w.heap.size w W ∧ RdV W A1' C1 ∧ RdV W A2' C2) ⟨K0.out.set_ 2 _, K1.out.far (by show w.heap.size + 1 ≠ w.heap.size; omega) _, K2.out.far (by show w.heap.size + 1 + 1 ≠ w.heap.size; omega) _, HB.out.setCell (Nat.le_refl _) _, j1.out.far (fun a h => (hne_of (HG1.out a h)).1) _, j2.out.far (fun a h => (hne_of (HG2.out a h)).1) _⟩ ?_
  clear K0 K1 K2 g1 g2 g3 p1 p2 hsz HB j1 j2
  rintro W3 ⟨k0, k1, k2, hb, i1, i2⟩
  have hd := H3.out.below hb
  refine (cloneI_any A3 c3 C3 n3 W3 hd.1 hd.2.2.2.2 hd.2.1 hd.2.2.1 hd.2.2.2.1).mono ?_
  rintro e w3 ⟨A3', d3, rfl, hcap3, _, hR3, hF3, hb3⟩
  have hz3 : w.heap.size + 1 + 1 < W3.heap.size := k2.lt
  replace k0 := k0.below hb3
  replace k1 := k1.below hb3
  replace k2 := k2.below hb3
  have j1 := Lib.hid (i1.below hb3)
  have j2 := Lib.hid (i2.below hb3)
  have j3 := Lib.hid hR3
  have hG3 : ∀ a, A3' = some a → w.heap.size + 1 < a.block := fun a h => by have := hF3 a h; omega
  have HG3 := Lib.hid hG3
  clear hG3
  have HB := Lib.hid (Below.trans hb (hb3.mono hb.size))
  have g1 := k0.cell 4
  have g2 := k0.frozen 4
  have g3 := k0.cell 5
  have p1 := k2.cell 1
  have p2 := k2.cell 2
  have hsz : w.heap.size + 1 + 1 < w3.heap.size := k2.lt
  simp at g1 g3 p1 p2
  have K0 := Lib.hid k0
  have K1 := Lib.hid k1
  have K2 := Lib.hid k2
  clear k0 k1 k2 hR3 hb3 hb hd hF3 i1 i2
  go_wp2_with (first | (go_at_call 56; refine (clipI_any _ _ _ _ hcap3).mono ?_; rintro e w' ⟨rfl, rfl⟩) | fail)
  rw [rounds_succ]
  go_wp2_with fail
  refine gen_world (fun W => Blk W w.heap.size 25 #[(.int .i64 n), (.slice A1' n1 n1), (.slice A2' n2 n2), (.int .i64 long), (.slice A3' n3 n3), (.slice A4 n4 c4), (.int .i64 miss), (.int .i64 good), (.int .i64 fresh)] ∧ Blk W (w.heap.size + 1) 25 #[.int .i64 0, .slice none 0 0, .slice none 0 0, .int .i64 0, .slice none 0 0, .slice none 0 0, .int .i64 0, .int .i64 0, .int .i64 0] ∧ Blk W (w.heap.size + 1 + 1) 96 #[.pointer (some ⟨w.heap.size, 1, none⟩), .pointer (some ⟨w.heap.size, 2, none⟩), .pointer (some ⟨w.heap.size, 4, none⟩)] ∧ Below w.heap.size w W ∧ RdV W A1' C1 ∧ RdV W A2' C2 ∧ RdV W A3' C3) ⟨K0.out.set_ 4 _, K1.out.far (by show w.heap.size + 1 ≠ w.heap.size; omega) _, K2.out.far (by show w.heap.size + 1 + 1 ≠ w.heap.size; omega) _, HB.out.setCell (Nat.le_refl _) _, j1.out.far (fun a h => (hne_of (HG1.out a h)).1) _, j2.out.far (fun a h => (hne_of (HG2.out a h)).1) _, j3.out.far (fun a h => (hne_of (HG3.out a h)).1) _⟩ ?_
  clear K0 K1 K2 g1 g2 g3 p1 p2 hsz HB j1 j2 j3
  rintro W4 ⟨k0, k1, k2, hb, i1, i2, i3⟩
  have hd := H4.out.below hb
  refine (cloneS_any A4 c4 C4 n4 W4 hd.1 hd.2.2.2.2 hd.2.1 hd.2.2.1 hd.2.2.2.1).mono ?_
  rintro e w4 ⟨A4', d4, rfl, hcap4, _, hR4, hF4, hb4⟩
  have hz4 : w.heap.size + 1 + 1 < W4.heap.size := k2.lt
  replace k0 := k0.below hb4
  replace k1 := k1.below hb4
  replace k2 := k2.below hb4
  have j1 := Lib.hid (i1.below hb4)
  have j2 := Lib.hid (i2.below hb4)
  have j3 := Lib.hid (i3.below hb4)
  have j4 := Lib.hid hR4
  have hG4 : ∀ a, A4' = some a → w.heap.size + 1 < a.block := fun a h => by have := hF4 a h; omega
  have HG4 := Lib.hid hG4
  clear hG4
  have HB := Lib.hid (Below.trans hb (hb4.mono hb.size))
  have g1 := k0.cell 5
  have g2 := k0.frozen 5
  have g3 := k0.cell 0
  have p1 := k2.cell 1
  have p2 := k2.cell 2
  have hsz : w.heap.size + 1 + 1 < w4.heap.size := k2.lt
  have q0 := k0.cell 0
  have q1 := k0.cell 1
  have q2 := k0.cell 2
  have q3 := k0.cell 3
  have q4 := k0.cell 4
  have q6 := k0.cell 6
  have q7 := k0.cell 7
  have q8 := k0.cell 8
  have r0 := k1.cell 0
  have s0 := k1.frozen 0
  have r1 := k1.cell 1
  have s1 := k1.frozen 1
  have r2 := k1.cell 2
  have s2 := k1.frozen 2
  have r3 := k1.cell 3
  have s3 := k1.frozen 3
  have r4 := k1.cell 4
  have s4 := k1.frozen 4
  have r5 := k1.cell 5
  have s5 := k1.frozen 5
  have r6 := k1.cell 6
  have s6 := k1.frozen 6
  have r7 := k1.cell 7
  have s7 := k1.frozen 7
  have r8 := k1.cell 8
  have s8 := k1.frozen 8
  simp at g1 g3 p1 p2 q0 q1 q2 q3 q4 q6 q7 q8 r0 r1 r2 r3 r4 r5 r6 r7 r8
  have K0 := Lib.hid k0
  have K1 := Lib.hid k1
  have K2 := Lib.hid k2
  clear k0 k1 k2 hR4 hb4 hb hd hF4 i1 i2 i3
  go_wp2_with (first | (go_at_call 58; refine (clipS_any _ _ _ _ hcap4).mono ?_; rintro e w' ⟨rfl, rfl⟩) | fail)
  refine bodyPost_ret (v := .agg #[.int .i64 n, .slice A1' n1 n1, .slice A2' n2 n2, .int .i64 long, .slice A3' n3 n3, .slice A4' n4 n4, .int .i64 miss, .int .i64 good, .int .i64 fresh]) (by simp [results, Tryd.results18, go_sem, r0, r1, r2, r3, r4, r5, r6, r7, r8]) rfl ⟨A1', A2', A3', A4', rfl, ?_, ?_, ?_, ?_, ?_, ?_⟩
  · repeat (first | (with_reducible exact j1.out) | (with_reducible refine RdV.far ?_ (fun a h => (hne_of (HG1.out a h)).1) _) | (with_reducible refine RdV.far ?_ (fun a h => (hne_of (HG1.out a h)).2) _))
  · repeat (first | (with_reducible exact j2.out) | (with_reducible refine RdV.far ?_ (fun a h => (hne_of (HG2.out a h)).1) _) | (with_reducible refine RdV.far ?_ (fun a h => (hne_of (HG2.out a h)).2) _))
  · repeat (first | (with_reducible exact j3.out) | (with_reducible refine RdV.far ?_ (fun a h => (hne_of (HG3.out a h)).1) _) | (with_reducible refine RdV.far ?_ (fun a h => (hne_of (HG3.out a h)).2) _))
  · repeat (first | (with_reducible exact j4.out) | (with_reducible refine RdV.far ?_ (fun a h => (hne_of (HG4.out a h)).1) _) | (with_reducible refine RdV.far ?_ (fun a h => (hne_of (HG4.out a h)).2) _))
  · rintro a (h | h | h | h)
    · have := HG1.out a h; omega
    · have := HG2.out a h; omega
    · have := HG3.out a h; omega
    · have := HG4.out a h; omega
  · repeat (first | (with_reducible exact HB.out) | (with_reducible refine Below.setCell ?_ (by simp) _))
end Go.Proofs.YtbmbaalidehoeaaDoor.K
