/- models.Choose at whatever number; sennitref28.Choose; the law's examples. -/
import Derived.Test.YtpcabnnihdjhpaaDoorSaid
namespace Go.Proofs.YtpcabnnihdjhpaaDoor.K
open Go.RowKit

set_option maxRecDepth 100000 in
set_option maxHeartbeats 4000000 in
theorem choose_zero (x y : Sd) (d : Bool) (w : World) :
    Calls Tryd.prog 7 #[x.V, y.V, .int .i64 0, .bool d] w fun e w' => e = .returned (bareS y d).V ∧ Below w.heap.size w w' := by
  obtain ⟨R, hR⟩ : ∃ R, bareS y d = R := ⟨_, rfl⟩
  have HC := Lib.hid fun (W : World) => bare_any y d W
  rw [hR] at HC ⊢
  clear hR
  obtain ⟨r0, r1, r2, r3, r4, r5⟩ := R
  obtain ⟨is, at_, k, s, q, v⟩ := x
  obtain ⟨is2, at2, k2, s2, q2, v2⟩ := y
  simp only [Sd.V, Sd.cells] at HC ⊢
  go_enter Tryd.func7, Tryd.ntmps7
  go_wp2_with fail
  go_at_call 10
  refine (HC.out _).mono ?_
  rintro e w3 ⟨rfl, hb3⟩
  have kr := (Blk.new_ ((w.alloc (.cells #[.bool is, .int .i64 at_, .int .u8 k, .int .u8 s, .int .u32 q, .int .u32 v] 27)).alloc (.cells #[.bool is2, .int .i64 at2, .int .u8 k2, .int .u8 s2, .int .u32 q2, .int .u32 v2] 27)) 27 Sd.zero.cells (g := w.heap.size + 1 + 1) (by simp)).below hb3
  simp only [Sd.zero, Sd.cells] at kr
  obtain ⟨z0, z1, z2, z3, z4, z5⟩ := box6 kr
  have HB3 := Lib.hid (Below.then_ (Below.allocW (Below.allocW (Below.allocW (Below.refl _ _) _) _) _) hb3)
  have hlr := kr.lt
  have f0 := kr.frozen 0
  have f1 := kr.frozen 1
  have f2 := kr.frozen 2
  have f3 := kr.frozen 3
  have f4 := kr.frozen 4
  have f5 := kr.frozen 5
  clear kr hb3
  go_wp2
  refine bodyPost_ret (v := .agg #[.bool r0, .int .i64 r1, .int .u8 r2, .int .u8 r3, .int .u32 r4, .int .u32 r5]) (by simp [results, Tryd.results7, go_sem, z0, z1, z2, z3, z4, z5]) rfl ⟨rfl, ?_⟩
  repeat (first | (with_reducible exact HB3.out) | (with_reducible refine Below.setCell ?_ (by first | (simp; done) | (simp; omega)) _))

set_option maxRecDepth 100000 in
set_option maxHeartbeats 4000000 in
theorem choose_one (x y : Sd) (d : Bool) (w : World) :
    Calls Tryd.prog 7 #[x.V, y.V, .int .i64 1, .bool d] w fun e w' => e = .returned (bareS x d).V ∧ Below w.heap.size w w' := by
  obtain ⟨R, hR⟩ : ∃ R, bareS x d = R := ⟨_, rfl⟩
  have HC := Lib.hid fun (W : World) => bare_any x d W
  rw [hR] at HC ⊢
  clear hR
  obtain ⟨r0, r1, r2, r3, r4, r5⟩ := R
  obtain ⟨is, at_, k, s, q, v⟩ := x
  obtain ⟨is2, at2, k2, s2, q2, v2⟩ := y
  simp only [Sd.V, Sd.cells] at HC ⊢
  go_enter Tryd.func7, Tryd.ntmps7
  go_wp2_with fail
  go_at_call 10
  refine (HC.out _).mono ?_
  rintro e w3 ⟨rfl, hb3⟩
  have kr := (Blk.new_ ((w.alloc (.cells #[.bool is, .int .i64 at_, .int .u8 k, .int .u8 s, .int .u32 q, .int .u32 v] 27)).alloc (.cells #[.bool is2, .int .i64 at2, .int .u8 k2, .int .u8 s2, .int .u32 q2, .int .u32 v2] 27)) 27 Sd.zero.cells (g := w.heap.size + 1 + 1) (by simp)).below hb3
  simp only [Sd.zero, Sd.cells] at kr
  obtain ⟨z0, z1, z2, z3, z4, z5⟩ := box6 kr
  have HB3 := Lib.hid (Below.then_ (Below.allocW (Below.allocW (Below.allocW (Below.refl _ _) _) _) _) hb3)
  have hlr := kr.lt
  have f0 := kr.frozen 0
  have f1 := kr.frozen 1
  have f2 := kr.frozen 2
  have f3 := kr.frozen 3
  have f4 := kr.frozen 4
  have f5 := kr.frozen 5
  clear kr hb3
  go_wp2
  refine bodyPost_ret (v := .agg #[.bool r0, .int .i64 r1, .int .u8 r2, .int .u8 r3, .int .u32 r4, .int .u32 r5]) (by simp [results, Tryd.results7, go_sem, z0, z1, z2, z3, z4, z5]) rfl ⟨rfl, ?_⟩
  repeat (first | (with_reducible exact HB3.out) | (with_reducible refine Below.setCell ?_ (by first | (simp; done) | (simp; omega)) _))

set_option maxRecDepth 100000 in
set_option maxHeartbeats 4000000 in
theorem choose_else (x y : Sd) (f : Int) (h1 : ¬ f = -1) (h2 : ¬ f = 0) (h3 : ¬ f = 1) (d : Bool) (w : World) :
    Calls Tryd.prog 7 #[x.V, y.V, .int .i64 f, .bool d] w fun e w' => e = .returned Sd.zero.V ∧ Below w.heap.size w w' := by
  obtain ⟨is, at_, k, s, q, v⟩ := x
  obtain ⟨is2, at2, k2, s2, q2, v2⟩ := y
  simp only [Sd.V, Sd.cells]
  have g1 : (f == -1) = false := by simpa using h1
  have g2 : (f == 0) = false := by simpa using h2
  have g3 : (f == 1) = false := by simpa using h3
  go_enter Tryd.func7, Tryd.ntmps7
  go_wp2
  refine bodyPost_ret (v := .agg #[.bool false, .int .i64 0, .int .u8 0, .int .u8 0, .int .u32 0, .int .u32 0]) (by simp [results, Tryd.results7, go_sem]) rfl ⟨rfl, ?_⟩
  repeat (first | (with_reducible exact Below.refl _ _) | (with_reducible refine Below.setCell ?_ (by simp) _) | (with_reducible refine Below.allocW ?_ _))

theorem choose_any (x y : Sd) (f : Int) (d : Bool) (w : World) :
    Calls Tryd.prog 7 #[x.V, y.V, .int .i64 f, .bool d] w fun e w' => e = .returned (chooseS x y f d).V ∧ Below w.heap.size w w' := by
  unfold chooseS
  by_cases h1 : f = -1
  · subst h1; exact choose_none x y d w
  · by_cases h2 : f = 0
    · subst h2; exact choose_zero x y d w
    · by_cases h3 : f = 1
      · subst h3; exact choose_one x y d w
      · rw [if_neg h1, if_neg h2, if_neg h3]; exact choose_else x y f h1 h2 h3 d w
end Go.Proofs.YtpcabnnihdjhpaaDoor.K
