/- sennitref28.Choose; the law's examples. -/
import Derived.Test.YtpcabnnihdjhpaaDoorSaid2
namespace Go.Proofs.YtpcabnnihdjhpaaDoor.K
open Go.RowKit

theorem chooseS_0 (x y : Sd) (d : Bool) : chooseS x y 0 d = bareS y d := rfl
theorem chooseS_1 (x y : Sd) (d : Bool) : chooseS x y 1 d = bareS x d := rfl
theorem chooseS_m1 (x y : Sd) (d : Bool) : chooseS x y (-1) d = bareS x (y.is && sameP x y) := rfl
theorem bareS_no (d : Sd) (b : Bool) (h : d.is = false) : bareS d b = Sd.zero := by simp [bareS, h]
theorem bareS_false (d : Sd) : bareS d false = Sd.zero := by simp [bareS]
theorem bareS_yes (a k s q v : Int) : bareS ⟨true, a, k, s, q, v⟩ true = ⟨true, 0, k, s, q, v⟩ := rfl

set_option maxRecDepth 100000 in
set_option maxHeartbeats 4000000 in
theorem refChoose_m1 (x y : Sd) (d : Bool) (w : World) :
    Calls Tryd.prog 8 #[x.V, y.V, .int .i64 (-1), .bool d] w fun e w' => e = .returned (chooseS x y (-1) d).V ∧ Below w.heap.size w w' := by
  obtain ⟨is, at_, k, s, q, v⟩ := x
  obtain ⟨is2, at2, k2, s2, q2, v2⟩ := y
  cases is
  · rw [chooseS_m1, bareS_no _ _ rfl]
    simp only [Sd.V, Sd.cells, Sd.zero]
    go_enter Tryd.func8, Tryd.ntmps8
    go_wp2
    refine bodyPost_ret (v := .agg #[.bool false, .int .i64 0, .int .u8 0, .int .u8 0, .int .u32 0, .int .u32 0]) (by simp [results, Tryd.results8, go_sem]) rfl ⟨rfl, ?_⟩
    repeat (first | (with_reducible exact Below.refl _ _) | (with_reducible refine Below.setCell ?_ (by simp) _) | (with_reducible refine Below.allocW ?_ _))
  · cases is2
    · rw [chooseS_m1, Bool.false_and, bareS_false]
      simp only [Sd.V, Sd.cells, Sd.zero]
      go_enter Tryd.func8, Tryd.ntmps8
      go_wp2
      refine bodyPost_ret (v := .agg #[.bool false, .int .i64 0, .int .u8 0, .int .u8 0, .int .u32 0, .int .u32 0]) (by simp [results, Tryd.results8, go_sem]) rfl ⟨rfl, ?_⟩
      repeat (first | (with_reducible exact Below.refl _ _) | (with_reducible refine Below.setCell ?_ (by simp) _) | (with_reducible refine Below.allocW ?_ _))
    · by_cases h : sameP ⟨true, at_, k, s, q, v⟩ ⟨true, at2, k2, s2, q2, v2⟩ = true
      · have h' := h
        simp only [sameP, Bool.and_eq_true, beq_iff_eq] at h'
        obtain ⟨rfl, rfl, rfl, rfl⟩ := h'
        rw [chooseS_m1, h, Bool.true_and, bareS_yes]
        simp only [Sd.V, Sd.cells]
        clear h
        go_enter Tryd.func8, Tryd.ntmps8
        go_wp2
        refine bodyPost_ret (v := .agg #[.bool true, .int .i64 0, .int .u8 k, .int .u8 s, .int .u32 q, .int .u32 v]) (by simp [results, Tryd.results8, go_sem]) rfl ⟨rfl, ?_⟩
        repeat (first | (with_reducible exact Below.refl _ _) | (with_reducible refine Below.setCell ?_ (by simp) _) | (with_reducible refine Below.allocW ?_ _))
      · have h' : sameP ⟨true, at_, k, s, q, v⟩ ⟨true, at2, k2, s2, q2, v2⟩ = false := by simpa using h
        rw [chooseS_m1, h', Bool.true_and, bareS_false]
        simp only [Sd.V, Sd.cells, Sd.zero]
        have HH := Lib.hid h
        clear h h'
        go_enter Tryd.func8, Tryd.ntmps8
        go_wp2
        all_goals first
          | (exfalso; refine HH.out ?_; simp [sameP, *]; done)
          | (refine bodyPost_ret (v := .agg #[.bool false, .int .i64 0, .int .u8 0, .int .u8 0, .int .u32 0, .int .u32 0]) (by simp [results, Tryd.results8, go_sem]) rfl ⟨rfl, ?_⟩; (repeat (first | (with_reducible exact Below.refl _ _) | (with_reducible refine Below.setCell ?_ (by simp) _) | (with_reducible refine Below.allocW ?_ _))); done)

set_option maxRecDepth 100000 in
set_option maxHeartbeats 4000000 in
theorem refChoose_0 (x y : Sd) (d : Bool) (w : World) :
    Calls Tryd.prog 8 #[x.V, y.V, .int .i64 0, .bool d] w fun e w' => e = .returned (chooseS x y 0 d).V ∧ Below w.heap.size w w' := by
  obtain ⟨is, at_, k, s, q, v⟩ := x
  obtain ⟨is2, at2, k2, s2, q2, v2⟩ := y
  cases is2
  · rw [chooseS_0, bareS_no _ _ rfl]
    simp only [Sd.V, Sd.cells, Sd.zero]
    cases d
    · go_enter Tryd.func8, Tryd.ntmps8
      go_wp2
      refine bodyPost_ret (v := .agg #[.bool false, .int .i64 0, .int .u8 0, .int .u8 0, .int .u32 0, .int .u32 0]) (by simp [results, Tryd.results8, go_sem]) rfl ⟨rfl, ?_⟩
      repeat (first | (with_reducible exact Below.refl _ _) | (with_reducible refine Below.setCell ?_ (by simp) _) | (with_reducible refine Below.allocW ?_ _))
    · go_enter Tryd.func8, Tryd.ntmps8
      go_wp2
      refine bodyPost_ret (v := .agg #[.bool false, .int .i64 0, .int .u8 0, .int .u8 0, .int .u32 0, .int .u32 0]) (by simp [results, Tryd.results8, go_sem]) rfl ⟨rfl, ?_⟩
      repeat (first | (with_reducible exact Below.refl _ _) | (with_reducible refine Below.setCell ?_ (by simp) _) | (with_reducible refine Below.allocW ?_ _))
  · cases d
    · rw [chooseS_0, bareS_false]
      simp only [Sd.V, Sd.cells, Sd.zero]
      go_enter Tryd.func8, Tryd.ntmps8
      go_wp2
      refine bodyPost_ret (v := .agg #[.bool false, .int .i64 0, .int .u8 0, .int .u8 0, .int .u32 0, .int .u32 0]) (by simp [results, Tryd.results8, go_sem]) rfl ⟨rfl, ?_⟩
      repeat (first | (with_reducible exact Below.refl _ _) | (with_reducible refine Below.setCell ?_ (by simp) _) | (with_reducible refine Below.allocW ?_ _))
    · rw [chooseS_0, bareS_yes]
      simp only [Sd.V, Sd.cells]
      go_enter Tryd.func8, Tryd.ntmps8
      go_wp2
      refine bodyPost_ret (v := .agg #[.bool true, .int .i64 0, .int .u8 k2, .int .u8 s2, .int .u32 q2, .int .u32 v2]) (by simp [results, Tryd.results8, go_sem]) rfl ⟨rfl, ?_⟩
      repeat (first | (with_reducible exact Below.refl _ _) | (with_reducible refine Below.setCell ?_ (by simp) _) | (with_reducible refine Below.allocW ?_ _))

set_option maxRecDepth 100000 in
set_option maxHeartbeats 4000000 in
theorem refChoose_1 (x y : Sd) (d : Bool) (w : World) :
    Calls Tryd.prog 8 #[x.V, y.V, .int .i64 1, .bool d] w fun e w' => e = .returned (chooseS x y 1 d).V ∧ Below w.heap.size w w' := by
  obtain ⟨is, at_, k, s, q, v⟩ := x
  obtain ⟨is2, at2, k2, s2, q2, v2⟩ := y
  cases is
  · rw [chooseS_1, bareS_no _ _ rfl]
    simp only [Sd.V, Sd.cells, Sd.zero]
    cases d
    · go_enter Tryd.func8, Tryd.ntmps8
      go_wp2
      refine bodyPost_ret (v := .agg #[.bool false, .int .i64 0, .int .u8 0, .int .u8 0, .int .u32 0, .int .u32 0]) (by simp [results, Tryd.results8, go_sem]) rfl ⟨rfl, ?_⟩
      repeat (first | (with_reducible exact Below.refl _ _) | (with_reducible refine Below.setCell ?_ (by simp) _) | (with_reducible refine Below.allocW ?_ _))
    · go_enter Tryd.func8, Tryd.ntmps8
      go_wp2
      refine bodyPost_ret (v := .agg #[.bool false, .int .i64 0, .int .u8 0, .int .u8 0, .int .u32 0, .int .u32 0]) (by simp [results, Tryd.results8, go_sem]) rfl ⟨rfl, ?_⟩
      repeat (first | (with_reducible exact Below.refl _ _) | (with_reducible refine Below.setCell ?_ (by simp) _) | (with_reducible refine Below.allocW ?_ _))
  · cases d
    · rw [chooseS_1, bareS_false]
      simp only [Sd.V, Sd.cells, Sd.zero]
      go_enter Tryd.func8, Tryd.ntmps8
      go_wp2
      refine bodyPost_ret (v := .agg #[.bool false, .int .i64 0, .int .u8 0, .int .u8 0, .int .u32 0, .int .u32 0]) (by simp [results, Tryd.results8, go_sem]) rfl ⟨rfl, ?_⟩
      repeat (first | (with_reducible exact Below.refl _ _) | (with_reducible refine Below.setCell ?_ (by simp) _) | (with_reducible refine Below.allocW ?_ _))
    · rw [chooseS_1, bareS_yes]
      simp only [Sd.V, Sd.cells]
      go_enter Tryd.func8, Tryd.ntmps8
      go_wp2
      refine bodyPost_ret (v := .agg #[.bool true, .int .i64 0, .int .u8 k, .int .u8 s, .int .u32 q, .int .u32 v]) (by simp [results, Tryd.results8, go_sem]) rfl ⟨rfl, ?_⟩
      repeat (first | (with_reducible exact Below.refl _ _) | (with_reducible refine Below.setCell ?_ (by simp) _) | (with_reducible refine Below.allocW ?_ _))

set_option maxRecDepth 100000 in
set_option maxHeartbeats 4000000 in
theorem refChoose_else (x y : Sd) (f : Int) (h1 : ¬ f = -1) (h2 : ¬ f = 0) (h3 : ¬ f = 1) (d : Bool) (w : World) :
    Calls Tryd.prog 8 #[x.V, y.V, .int .i64 f, .bool d] w fun e w' => e = .returned Sd.zero.V ∧ Below w.heap.size w w' := by
  obtain ⟨is, at_, k, s, q, v⟩ := x
  obtain ⟨is2, at2, k2, s2, q2, v2⟩ := y
  simp only [Sd.V, Sd.cells]
  have g1 : (f == -1) = false := by simpa using h1
  have g2 : (f == 0) = false := by simpa using h2
  have g3 : (f == 1) = false := by simpa using h3
  go_enter Tryd.func8, Tryd.ntmps8
  go_wp2
  refine bodyPost_ret (v := .agg #[.bool false, .int .i64 0, .int .u8 0, .int .u8 0, .int .u32 0, .int .u32 0]) (by simp [results, Tryd.results8, go_sem]) rfl ⟨rfl, ?_⟩
  repeat (first | (with_reducible exact Below.refl _ _) | (with_reducible refine Below.setCell ?_ (by simp) _) | (with_reducible refine Below.allocW ?_ _))

theorem refChoose_any (x y : Sd) (f : Int) (d : Bool) (w : World) :
    Calls Tryd.prog 8 #[x.V, y.V, .int .i64 f, .bool d] w fun e w' => e = .returned (chooseS x y f d).V ∧ Below w.heap.size w w' := by
  by_cases h1 : f = -1
  · subst h1; exact refChoose_m1 x y d w
  · by_cases h2 : f = 0
    · subst h2; exact refChoose_0 x y d w
    · by_cases h3 : f = 1
      · subst h3; exact refChoose_1 x y d w
      · unfold chooseS; rw [if_neg h1, if_neg h2, if_neg h3]; exact refChoose_else x y f h1 h2 h3 d w
end Go.Proofs.YtpcabnnihdjhpaaDoor.K
