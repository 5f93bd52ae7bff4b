/- models.bare, models.Choose, sennitref28.Choose: what they answer. -/
import Derived.Test.YtpcabnnihdjhpaaDoorChecked
import Derived.Test.YtpcabnnihdjhpaaDoorBase
import Derived.Test.YtpcabnnihdjhpaaDoorTail
import Derived.WalkKit
import Derived.WalkSpells
import Derived.WalkLawsBesides
import Derived.Deep.QuietTactic
import Derived.BigQuiet
import Derived.Laws.StructEq
namespace Go.Proofs.YtpcabnnihdjhpaaDoor.K
open Go.RowKit

structure Sd where
  is : Bool
  at_ : Int
  k : Int
  s : Int
  q : Int
  v : Int
def Sd.cells (d : Sd) : Array Value := #[.bool d.is, .int .i64 d.at_, .int .u8 d.k, .int .u8 d.s, .int .u32 d.q, .int .u32 d.v]
def Sd.V (d : Sd) : Value := .agg d.cells
def Sd.zero : Sd := ⟨false, 0, 0, 0, 0, 0⟩
def bareS (d : Sd) (is : Bool) : Sd := if d.is && is then ⟨true, 0, d.k, d.s, d.q, d.v⟩ else Sd.zero
def sameP (a b : Sd) : Bool := a.k == b.k && (a.s == b.s && (a.q == b.q && a.v == b.v))
def chooseS (a b : Sd) (f : Int) (d : Bool) : Sd := if f = -1 then bareS a (b.is && sameP a b) else if f = 0 then bareS b d else if f = 1 then bareS a d else Sd.zero

set_option maxHeartbeats 1000000 in
theorem bare_any (d : Sd) (b : Bool) (w : World) :
    Calls Tryd.prog 10 #[d.V, .bool b] w fun e w' => e = .returned (bareS d b).V ∧ Below w.heap.size w w' := by
  obtain ⟨is, at_, k, s, q, v⟩ := d
  simp only [Sd.V, Sd.cells]
  cases is
  · go_enter Tryd.func10, Tryd.ntmps10
    go_wp2
    refine bodyPost_ret (v := .agg #[.bool false, .int .i64 0, .int .u8 0, .int .u8 0, .int .u32 0, .int .u32 0]) (by simp [results, Tryd.results10, go_sem]) rfl ⟨rfl, ?_⟩
    repeat (first | (with_reducible exact Below.refl _ _) | (with_reducible refine Below.setCell ?_ (by simp) _) | (with_reducible refine Below.allocW ?_ _))
  · cases b
    · go_enter Tryd.func10, Tryd.ntmps10
      go_wp2
      refine bodyPost_ret (v := .agg #[.bool false, .int .i64 0, .int .u8 0, .int .u8 0, .int .u32 0, .int .u32 0]) (by simp [results, Tryd.results10, go_sem]) rfl ⟨rfl, ?_⟩
      repeat (first | (with_reducible exact Below.refl _ _) | (with_reducible refine Below.setCell ?_ (by simp) _) | (with_reducible refine Below.allocW ?_ _))
    · go_enter Tryd.func10, Tryd.ntmps10
      go_wp2
      refine bodyPost_ret (v := .agg #[.bool true, .int .i64 0, .int .u8 k, .int .u8 s, .int .u32 q, .int .u32 v]) (by simp [results, Tryd.results10, go_sem]) rfl ⟨rfl, ?_⟩
      repeat (first | (with_reducible exact Below.refl _ _) | (with_reducible refine Below.setCell ?_ (by simp) _) | (with_reducible refine Below.allocW ?_ _))

theorem box6 {w : World} {b : Nat} {v0 v1 v2 v3 v4 v5 : Value} {t : TypeId} (h : Blk w b t #[v0, v1, v2, v3, v4, v5]) :
    w.cell? ⟨b, 0, none⟩ = some v0 ∧ w.cell? ⟨b, 1, none⟩ = some v1 ∧ w.cell? ⟨b, 2, none⟩ = some v2 ∧ w.cell? ⟨b, 3, none⟩ = some v3 ∧ w.cell? ⟨b, 4, none⟩ = some v4 ∧ w.cell? ⟨b, 5, none⟩ = some v5 :=
  ⟨h.cell 0, h.cell 1, h.cell 2, h.cell 3, h.cell 4, h.cell 5⟩
/-- bare at cells. -/
theorem bare_raw (is : Bool) (a k s q v : Int) (b : Bool) (w : World) :
    Calls Tryd.prog 10 #[.agg #[.bool is, .int .i64 a, .int .u8 k, .int .u8 s, .int .u32 q, .int .u32 v], .bool b] w fun e w' => e = .returned (bareS ⟨is, a, k, s, q, v⟩ b).V ∧ Below w.heap.size w w' := bare_any ⟨is, a, k, s, q, v⟩ b w

set_option maxRecDepth 100000 in
set_option maxHeartbeats 4000000 in
theorem choose_none (x y : Sd) (d : Bool) (w : World) :
    Calls Tryd.prog 7 #[x.V, y.V, .int .i64 (-1), .bool d] w fun e w' => e = .returned (bareS x (y.is && sameP x y)).V ∧ Below w.heap.size w w' := by
  obtain ⟨B, hB⟩ : ∃ B, (y.is && sameP x y) = B := ⟨_, rfl⟩
  obtain ⟨R, hR⟩ : ∃ R, bareS x B = R := ⟨_, rfl⟩
  have HC := Lib.hid fun (W : World) => bare_any x B W
  rw [hB, hR]
  rw [hR] at HC
  clear hR
  obtain ⟨r0, r1, r2, r3, r4, r5⟩ := R
  obtain ⟨is, at_, k, s, q, v⟩ := x
  obtain ⟨is2, at2, k2, s2, q2, v2⟩ := y
  simp only [Sd.V, Sd.cells, sameP] at HC hB ⊢
  go_enter Tryd.func7, Tryd.ntmps7
  go_wp2_with fail
  refine gen_wp (fun U => Hid (Blk U w.heap.size 27 #[.bool is, .int .i64 at_, .int .u8 k, .int .u8 s, .int .u32 q, .int .u32 v]) ∧ Hid (Blk U (w.heap.size + 1) 27 #[.bool is2, .int .i64 at2, .int .u8 k2, .int .u8 s2, .int .u32 q2, .int .u32 v2]) ∧ Hid (Blk U (w.heap.size + 1 + 1) 27 Sd.zero.cells) ∧ Hid (Below w.heap.size w U))
    ⟨Lib.hid (((Blk.new_ w _ _ rfl).alloc _).alloc _), Lib.hid ((Blk.new_ _ _ _ (by simp)).alloc _), Lib.hid (Blk.new_ _ _ _ (by simp)), Lib.hid (Below.allocW (Below.allocW (Below.allocW (Below.refl _ _) _) _) _)⟩ ?_
  rintro U ⟨KX, KY, KR, HB⟩
  obtain ⟨x0, x1, x2, x3, x4, x5⟩ := box6 KX.out
  obtain ⟨y0, y1, y2, y3, y4, y5⟩ := box6 KY.out
  have T2 : ∀ z : Grow U, (z.w.cell? ⟨w.heap.size, 0, none⟩ = some (.bool is) ∧ z.w.cell? ⟨w.heap.size, 1, none⟩ = some (.int .i64 at_) ∧ z.w.cell? ⟨w.heap.size, 2, none⟩ = some (.int .u8 k) ∧ z.w.cell? ⟨w.heap.size, 3, none⟩ = some (.int .u8 s) ∧ z.w.cell? ⟨w.heap.size, 4, none⟩ = some (.int .u32 q) ∧ z.w.cell? ⟨w.heap.size, 5, none⟩ = some (.int .u32 v)) ∧
      (z.w.cell? ⟨w.heap.size + 1, 0, none⟩ = some (.bool is2) ∧ z.w.cell? ⟨w.heap.size + 1, 2, none⟩ = some (.int .u8 k2) ∧ z.w.cell? ⟨w.heap.size + 1, 3, none⟩ = some (.int .u8 s2) ∧ z.w.cell? ⟨w.heap.size + 1, 4, none⟩ = some (.int .u32 q2) ∧ z.w.cell? ⟨w.heap.size + 1, 5, none⟩ = some (.int .u32 v2)) :=
    fun z => ⟨⟨z.cell x0, z.cell x1, z.cell x2, z.cell x3, z.cell x4, z.cell x5⟩, ⟨z.cell y0, z.cell y2, z.cell y3, z.cell y4, z.cell y5⟩⟩
  clear x0 x1 x2 x3 x4 x5 y0 y1 y2 y3 y4 y5
  cases is2
  · obtain rfl := hB
    refine wp_grow_tail 11 (by kernel_rfl) (by kernel_rfl) ?_
    simp only [List.take_succ_cons, List.take_zero, List.drop_succ_cons, List.drop_zero]
    repeat (go_big_quiet_step ((go_at_call 10; exact Grow.call _ (HC.out _))))
    refine wpQuiet_nil ?_
    rintro w3 hx3
    have hb3 := grow_of hx3
    clear hx3
    have kr := KR.out.below hb3
    simp only [Sd.zero, Sd.cells] at kr
    obtain ⟨z0, z1, z2, z3, z4, z5⟩ := box6 kr
    have HB3 := Lib.hid (HB.out.trans (hb3.mono (Nat.le_trans (Nat.le_of_lt (by simpa using KX.out.lt)) (Nat.le_refl _))))
    have hlr := kr.lt
    have f0 := kr.frozen 0
    have f1 := kr.frozen 1
    have f2 := kr.frozen 2
    have f3 := kr.frozen 3
    have f4 := kr.frozen 4
    have f5 := kr.frozen 5
    go_wp2

    refine bodyPost_ret (v := .agg #[.bool r0, .int .i64 r1, .int .u8 r2, .int .u8 r3, .int .u32 r4, .int .u32 r5]) (by simp [results, Tryd.results7, go_sem, z0, z1, z2, z3, z4, z5]) rfl ⟨rfl, ?_⟩
    repeat (first | (with_reducible exact HB3.out) | (with_reducible refine Below.setCell ?_ (by first | (simp; done) | (simp; omega)) _))
  · obtain rfl := hB
    simp only [Bool.true_and] at HC
    refine wp_grow_tail 11 (by kernel_rfl) (by kernel_rfl) ?_
    simp only [List.take_succ_cons, List.take_zero, List.drop_succ_cons, List.drop_zero]
    repeat (go_big_quiet_step ((go_at_call 10; exact Grow.call _ (HC.out _))))
    (apply wpQuiet_step; intro K hK; simp only [Oper.quiet, Oper.quietAt]; refine ⟨.bool (k == k2 && (s == s2 && (q == q2 && v == v2))), ?_, hK _ ?_⟩; · (intro W _; go_simp; by_cases e1 : k = k2 <;> by_cases e2 : s = s2 <;> by_cases e3 : q = q2 <;> by_cases e4 : v = v2 <;> simp [e1, e2, e3, e4]))
    simp only [Act.put, List.setIfInBounds_toArray, List.set_cons_succ, List.set_cons_zero]
    repeat (go_big_quiet_step ((go_at_call 10; exact Grow.call _ (HC.out _))))
    refine wpQuiet_nil ?_
    rintro w3 hx3
    have hb3 := grow_of hx3
    clear hx3
    have kr := KR.out.below hb3
    simp only [Sd.zero, Sd.cells] at kr
    obtain ⟨z0, z1, z2, z3, z4, z5⟩ := box6 kr
    have HB3 := Lib.hid (HB.out.trans (hb3.mono (Nat.le_trans (Nat.le_of_lt (by simpa using KX.out.lt)) (Nat.le_refl _))))
    have hlr := kr.lt
    have f0 := kr.frozen 0
    have f1 := kr.frozen 1
    have f2 := kr.frozen 2
    have f3 := kr.frozen 3
    have f4 := kr.frozen 4
    have f5 := kr.frozen 5
    go_wp2

    refine bodyPost_ret (v := .agg #[.bool r0, .int .i64 r1, .int .u8 r2, .int .u8 r3, .int .u32 r4, .int .u32 r5]) (by simp [results, Tryd.results7, go_sem, z0, z1, z2, z3, z4, z5]) rfl ⟨rfl, ?_⟩
    repeat (first | (with_reducible exact HB3.out) | (with_reducible refine Below.setCell ?_ (by first | (simp; done) | (simp; omega)) _))
end Go.Proofs.YtpcabnnihdjhpaaDoor.K
