/- sennitlaw28.ModelsChoose answers true. -/
import Derived.Test.YtpcabnnihdjhpaaDoorSaid5
import Derived.Test.YtpcabnnihdjhpaaDoorBorn
namespace Go.Proofs.YtpcabnnihdjhpaaDoor.K
open Go.RowKit

theorem cells12 {w : World} {g : Nat} {t : TypeId} {c0 c1 c2 c3 c4 c5 c6 c7 c8 c9 c10 c11 : Value} (h : Blk w g t #[c0, c1, c2, c3, c4, c5, c6, c7, c8, c9, c10, c11]) :
    (w.cell? ⟨g, 0, none⟩ = some c0 ∧ w.cell? ⟨g, 1, none⟩ = some c1 ∧ w.cell? ⟨g, 2, none⟩ = some c2 ∧ w.cell? ⟨g, 3, none⟩ = some c3 ∧ w.cell? ⟨g, 4, none⟩ = some c4 ∧ w.cell? ⟨g, 5, none⟩ = some c5) ∧
    (w.cell? ⟨g, 6, none⟩ = some c6 ∧ w.cell? ⟨g, 7, none⟩ = some c7 ∧ w.cell? ⟨g, 8, none⟩ = some c8 ∧ w.cell? ⟨g, 9, none⟩ = some c9 ∧ w.cell? ⟨g, 10, none⟩ = some c10 ∧ w.cell? ⟨g, 11, none⟩ = some c11) :=
  ⟨⟨h.cell 0, h.cell 1, h.cell 2, h.cell 3, h.cell 4, h.cell 5⟩, ⟨h.cell 6, h.cell 7, h.cell 8, h.cell 9, h.cell 10, h.cell 11⟩⟩
theorem ModelVoid.below {w w' : World} {v : Value} (h : ModelVoid w v) (hb : Below w.heap.size w w') : ModelVoid w' v := by
  rcases h with h | ⟨b, h, hc⟩
  · exact .inl h
  · exact .inr ⟨b, h, Below.keeps hb hc⟩

set_option maxRecDepth 100000 in
set_option maxHeartbeats 8000000 in
theorem lawChoose_any (x y : Sd) (f : Int) (d : Bool) (w : World) :
    Calls Tryd.prog 3 #[.agg (x.cells ++ y.cells), .int .i64 f, .bool d] w fun e w' => e = .returned (.bool true) ∧ Below w.heap.size w w' := by
  have HCH := Lib.hid fun (W : World) => choose_any x y f d W
  have HRC := Lib.hid fun (W : World) => refChoose_any x y f d W
  have HSL := Lib.hid fun (W : World) (m : Value) (hm : ModelVoid W m) => slot_void m x W hm
  have HNX := Lib.hid fun (W : World) (m : Value) (hm : ModelVoid W m) => next_void m W hm
  obtain ⟨R, hR⟩ : ∃ R, chooseS x y f d = R := ⟨_, rfl⟩
  rw [hR] at HCH HRC
  clear hR
  obtain ⟨r0, r1, r2, r3, r4, r5⟩ := R
  obtain ⟨is, at_, k, s, q, v⟩ := x
  obtain ⟨is2, at2, k2, s2, q2, v2⟩ := y
  simp only [Sd.V, Sd.cells] at HCH HRC HSL ⊢
  simp only [List.append_toArray, List.cons_append, List.nil_append]
  go_enter Tryd.func3, Tryd.ntmps3
  go_wp2_with fail
  refine gen_wp (fun U => Hid (Blk U w.heap.size 28 #[.bool is, .int .i64 at_, .int .u8 k, .int .u8 s, .int .u32 q, .int .u32 v, .bool is2, .int .i64 at2, .int .u8 k2, .int .u8 s2, .int .u32 q2, .int .u32 v2]) ∧
      Hid (ModelVoid U (.pointer (some ⟨w.heap.size + 1, 0, none⟩))) ∧ Hid (Blk U (w.heap.size + 1 + 1) 40 #[.pointer none, .pointer (some ⟨w.heap.size + 1, 0, none⟩)]) ∧ Hid (Below w.heap.size w U))
    ⟨Lib.hid (((Blk.new_ w _ _ rfl).alloc _).alloc _), Lib.hid (.inr ⟨_, rfl, (((Blk.new_ _ _ _ (by simp)).alloc _).cell 0)⟩), Lib.hid (Blk.new_ _ _ _ (by simp)), Lib.hid (Below.allocW (Below.allocW (Below.allocW (Below.refl _ _) _) _) _)⟩ ?_
  rintro U ⟨KX, KM, KL, HB⟩
  go_loopw [9] (fun i wr => ∃ j : Nat, j ≤ 2 ∧ i = .int .i64 j ∧ Hid (Below U.heap.size U wr)) (fun i _ => 2 - (intOf i).toNat)
  case atStart => exact ⟨0, by omega, rfl, Lib.hid (Below.refl _ _)⟩
  case round =>
    obtain ⟨j, hj, rfl, HBR⟩ := hrel
    by_cases hlt : j < 2
    · obtain ⟨m, hm, hv⟩ : ∃ m, wr.cell? ⟨w.heap.size + 1 + 1, j, none⟩ = some m ∧ ModelVoid wr m := by
        have kl := KL.out.below HBR.out
        rcases (by omega : j = 0 ∨ j = 1) with rfl | rfl
        · exact ⟨_, kl.cell 0, .inl rfl⟩
        · exact ⟨_, kl.cell 1, KM.out.below HBR.out⟩
      have HV := Lib.hid hv
      obtain ⟨⟨x0, x1, x2, x3, x4, x5⟩, -⟩ := cells12 (KX.out.below HBR.out)
      have e1 : (0 : Int) ≤ (j : Int) := by omega
      have e2 : (j : Int) < 2 := by omega
      clear hv
      go_wp2_with fail
      have T2 : ∀ z : Grow wr, (z.w.cell? ⟨w.heap.size, 0, none⟩ = some (.bool is) ∧ z.w.cell? ⟨w.heap.size, 1, none⟩ = some (.int .i64 at_) ∧ z.w.cell? ⟨w.heap.size, 2, none⟩ = some (.int .u8 k) ∧ z.w.cell? ⟨w.heap.size, 3, none⟩ = some (.int .u8 s) ∧ z.w.cell? ⟨w.heap.size, 4, none⟩ = some (.int .u32 q) ∧ z.w.cell? ⟨w.heap.size, 5, none⟩ = some (.int .u32 v)) ∧ z.w.cell? ⟨w.heap.size + 1 + 1, j, none⟩ = some m :=
        fun z => ⟨⟨z.cell x0, z.cell x1, z.cell x2, z.cell x3, z.cell x4, z.cell x5⟩, z.cell hm⟩
      refine wp_born_edge 9 11 11 10 10 44 seenZ (by kernel_rfl) (by kernel_rfl) (by kernel_rfl) (by kernel_rfl) (by kernel_rfl) (by kernel_rfl) ⟨_, rfl, fun ρ V => by kernel_rfl⟩ ?_
      simp only [edge, later, strike, noop, List.take_succ_cons, List.take_zero, List.drop_succ_cons, List.drop_zero]
      apply Exists.intro
      refine ⟨fun Φ => ?_, ?_⟩
      · repeat (go_big_quiet_step ((go_at_call 4; exact GrowP.call _ (HSL.out _ _ (HV.out.below (Grow.h _))))))
        exact wpQuiet_nil rfl
      · intro b w1 hbs hb1 hk
        have HB1 := Lib.hid hb1
        have HK := Lib.hid hk
        clear hb1 hk
        simp only [Act.put, List.setIfInBounds_toArray, List.set_cons_succ, List.set_cons_zero]
        refine wpList_store_at rfl 44 (.tmp 10) (.tmp 25) rfl b 44 _ _ HK.out rfl rfl (by kernel_rfl) (by kernel_rfl) (by kernel_rfl) ?_
        go_wp2_with fail
        refine NoPanic.normal ?_
        have HB2 := Lib.hid (below_setRowW HB1.out hbs seenZ)
        have KS := Lib.hid (HK.out.setRow seenZ)
        obtain ⟨W1, eW1⟩ : ∃ W1, w1.setRow b seenZ = W1 := ⟨_, rfl⟩
        rw [eW1] at HB2 KS ⊢
        clear HB1 HK
        go_wp2_with (first
          | (refine wpList_load_at rfl 44 (.tmp 10) rfl b 0 rfl seenZ _ KS.out.range Tryd.underlying44 rfl (by kernel_rfl) ?_)
          | (go_at_call 5; refine (same_void _).mono ?_; rintro e w2 ⟨rfl, hb2⟩; have HB3 := Lib.hid (Below.then_ HB2.out hb2); have hm2 := Below.keeps HB3.out hm; have hv2 := HV.out.below HB3.out; have HV2 := Lib.hid hv2; clear hb2 hv2)
          | (go_at_call 6; refine (HNX.out _ _ HV2.out).mono ?_; rintro e w3 ⟨rfl, rfl⟩))
        go_round
        case rel => exact ⟨j + 1, by omega, by go_num, Lib.hid (Below.then_ HBR.out HB3.out)⟩
        case measure => simp [intOf]; omega
    · obtain rfl : j = 2 := by omega
      go_wp2_with fail
      obtain ⟨⟨x0, x1, x2, x3, x4, x5⟩, ⟨y0, y1, y2, y3, y4, y5⟩⟩ := cells12 (KX.out.below HBR.out)
      have T2 : ∀ z : Grow wr, (z.w.cell? ⟨w.heap.size, 0, none⟩ = some (.bool is) ∧ z.w.cell? ⟨w.heap.size, 1, none⟩ = some (.int .i64 at_) ∧ z.w.cell? ⟨w.heap.size, 2, none⟩ = some (.int .u8 k) ∧ z.w.cell? ⟨w.heap.size, 3, none⟩ = some (.int .u8 s) ∧ z.w.cell? ⟨w.heap.size, 4, none⟩ = some (.int .u32 q) ∧ z.w.cell? ⟨w.heap.size, 5, none⟩ = some (.int .u32 v)) ∧
          (z.w.cell? ⟨w.heap.size, 6, none⟩ = some (.bool is2) ∧ z.w.cell? ⟨w.heap.size, 7, none⟩ = some (.int .i64 at2) ∧ z.w.cell? ⟨w.heap.size, 8, none⟩ = some (.int .u8 k2) ∧ z.w.cell? ⟨w.heap.size, 9, none⟩ = some (.int .u8 s2) ∧ z.w.cell? ⟨w.heap.size, 10, none⟩ = some (.int .u32 q2) ∧ z.w.cell? ⟨w.heap.size, 11, none⟩ = some (.int .u32 v2)) :=
        fun z => ⟨⟨z.cell x0, z.cell x1, z.cell x2, z.cell x3, z.cell x4, z.cell x5⟩, ⟨z.cell y0, z.cell y1, z.cell y2, z.cell y3, z.cell y4, z.cell y5⟩⟩
      refine wp_region_grow (by kernel_rfl) (by kernel_rfl) ?_
      repeat (go_big_quiet_step ((first | (go_at_call 7; exact Grow.call _ (HCH.out _)) | (go_at_call 8; exact Grow.call _ (HRC.out _)) | (go_at_call 9; exact Grow.call _ (lives28_any _)))))
      refine wpQuiet_nil ?_
      rintro w3 hx3
      have hb3 := grow_of hx3
      clear hx3 T2
      go_wp2
      go_ret
      exact ⟨rfl, Below.then_ HB.out (Below.then_ HBR.out hb3)⟩
end Go.Proofs.YtpcabnnihdjhpaaDoor.K
