/- sennitlaw26.ActuatorsRun answers true at every input that can be read, and leaves its arguments as they were. Condition: rings.signs reads as the program's text lays it (the tied card says so by the program's text). -/
import Derived.Test.YtmpkpikamogpdaaDoorRowBase
import Derived.Test.YtmpkpikamogpdaaDoorRowCfg
import Derived.Test.YtmpkpikamogpdaaDoorRun2
import Derived.Test.YtmpkpikamogpdaaDoorCards
namespace Go.Proofs.YtmpkpikamogpdaaDoor.K
open Go.ChangeShapes Go.WideShapes Go.ChangeAt Go.RowKit

theorem wf_i64 {z : Int} (h : (Lit.int .i64 z).wf = true) : I64 z := by
  have : -9223372036854775808 ≤ z ∧ z ≤ 9223372036854775807 := by simpa [Lit.wf, IntKind.min, IntKind.max, IntKind.signed, IntKind.bits] using h
  exact this
theorem wf_u8 {z : Int} (h : (Lit.int .u8 z).wf = true) : 0 ≤ z ∧ z < 256 := by
  have : 0 ≤ z ∧ z ≤ 255 := by simpa [Lit.wf, IntKind.min, IntKind.max, IntKind.signed, IntKind.bits] using h
  omega

theorem run_rd : ∀ t ∈ Tryd.f5.params.toList, Tryd.prog.readableRec t = true ∧ t < Tryd.prog.types.size := rd_of (by kernel_rfl)
theorem del_cells : Tryd.prog.cellsOf 36 = 9 := by kernel_rfl
theorem del_leaves : leavesB Tryd.prog 6 36 [4, 2, 30, 5, 22, 22, 3, 3, 2] = true := by kernel_rfl

set_option maxRecDepth 100000 in
theorem open_dels {H : Type} {enc : TypeId × Value → H} {W : World} {r : Reach} {base b : Nat} {sp : Nat → Bool} {held : Bool} {v : Value} {d : DataW H} {p : List MemPlace}
    (hv : Value.okWide Tryd.prog W r base 60 v) (h : DataW.Trod enc Tryd.prog W b sp held 60 v d p) :
    ∃ (A : Option Addr) (c : Nat) (ds : List ADl), v = .slice A ds.length c ∧ RdV W A (delCells ds) ∧ ds.length ≤ 9223372036854775807 ∧ ∀ d ∈ ds, (0 ≤ d.station ∧ d.station < 256) ∧ I64 d.round := by
  obtain ⟨a0, len, cap, rfl⟩ := okWide_slice Tryd.underlying60 hv
  obtain ⟨fuel, hf⟩ := h
  obtain ⟨A, c, rows, e, _, hl, hr, hrow⟩ := open_rows Tryd.underlying60 (by rw [del_cells]; omega) hf
  obtain ⟨ds, rfl, hw⟩ := rows_of ADl.list (fun d => (0 ≤ d.station ∧ d.station < 256) ∧ I64 d.round) fun l hl => by
    obtain ⟨hll, n, y, hy⟩ := hrow l hl
    rw [del_cells] at hll
    obtain ⟨a0, a1, a2, a3, a4, a5, a6, a7, a8, rfl⟩ := list_9 hll
    obtain ⟨x5, e5⟩ := leaf_bool del_leaves hy (i := 0) rfl Tryd.underlying4
    obtain ⟨x6, e6, _⟩ := leaf_int del_leaves hy (i := 1) rfl Tryd.underlying2
    obtain ⟨x7, e7, _⟩ := leaf_int del_leaves hy (i := 2) rfl Tryd.underlying30
    obtain ⟨x8, e8, w8⟩ := leaf_int del_leaves hy (i := 3) rfl Tryd.underlying5
    obtain ⟨x9, e9, _⟩ := leaf_int del_leaves hy (i := 4) rfl Tryd.underlying22
    obtain ⟨x10, e10, _⟩ := leaf_int del_leaves hy (i := 5) rfl Tryd.underlying22
    obtain ⟨x11, e11, _⟩ := leaf_int del_leaves hy (i := 6) rfl Tryd.underlying3
    obtain ⟨x12, e12, _⟩ := leaf_int del_leaves hy (i := 7) rfl Tryd.underlying3
    obtain ⟨x13, e13, w13⟩ := leaf_int del_leaves hy (i := 8) rfl Tryd.underlying2
    simp at e5 e6 e7 e8 e9 e10 e11 e12 e13
    subst e5 e6 e7 e8 e9 e10 e11 e12 e13
    exact ⟨⟨x5, x6, x7, x8, x9, x10, x11, x12, x13⟩, rfl, wf_u8 w8, wf_i64 w13⟩
  have hv : Value.slice a0 len cap = .slice A (ds.map ADl.list).length c := by simpa [Value.cells] using e
  exact ⟨A, c, ds, by rw [hv, List.length_map], by simpa [delCells, List.flatMap] using hr, by simpa [maxLen] using hl, hw⟩

set_option maxRecDepth 100000 in
theorem run_lifted (os : Os) (started : os.Started) (H : Type) (enc : TypeId × Value → H) :
    ReturnsInHanded {} Tryd.checked os 5 .any (fun w args => (Rows.actuatorsRunSpec.pre enc Tryd.prog Tryd.f5 [] false w args ∧ laidMetH Tryd.prog laidS w) ∧ sizedMet enc Tryd.prog Tryd.f5 (OpenSpec.ofChange Rows.actuatorsRunSpec) false w args)
      (Rows.actuatorsRunSpec.post enc Tryd.prog Tryd.f5 false true false false) := by
  refine returnsInHanded_of_change_and (C := Tryd.checked) (X := fun w _ => laidMetH Tryd.prog laidS w) (fun _ _ _ hh h => h.of_heap hh) own started (by kernel_rfl) Tryd.func5
    (ChangeSpec.witness_shaped (enc := enc) (C := Tryd.checked) (os := os) (X := fun w _ => laidMetH Tryd.prog laidS w) false (World.laidAll Tryd.prog os laidS) #[.int .u32 0, .int .u8 0, .slice none 0 0] 8 (World.laidAll_os _ _ _)
      (World.shaped_of_ZipB (by kernel_rfl) (by kernel_rfl)) (by kernel_rfl) (by kernel_rfl) (by kernel_rfl)
      (by rw [MakeChecks.laidMetH_plain _ _ _ (by kernel_rfl)]; exact laidMet_laidAll _ (by kernel_rfl) (by kernel_rfl))) ?_
  intro W base args ds gs before hval0 hW _ _ hL _
  have hval : ∀ (j : Nat) t v, Tryd.f5.params[j]? = some t → args[j]? = some v → Value.okWide Tryd.prog W .any base t v := hval0
  have hS := signs_of_laid hL
  have hW' := hW
  have hlt : ∀ x ∈ before, x.block < W.heap.size := fun x hx => hW.lt x hx
  obtain ⟨p, q, hA0, hV, rfl, _, _⟩ := hW
  have hA : DataW.TrodAll enc Tryd.prog W 0 (fun _ => true) true Tryd.f5.params.toList args.toList ds p := hA0
  have hA' := hA
  rw [Tryd.params5] at hA hval
  obtain ⟨v0, v1, v2, d0, d1, d2, p0, p1, p2, ea, rfl, rfl, h0, h1, h2⟩ := trodAll_three hA
  obtain ⟨rfl, rfl⟩ := trodVars_none hV
  subst ea
  obtain ⟨x, rfl, -, -, wx⟩ := open_int Tryd.underlying22 (hval 0 22 v0 rfl rfl) h0
  obtain ⟨y, rfl, -, -, wy⟩ := open_int Tryd.underlying5 (hval 1 5 v1 rfl rfl) h1
  obtain ⟨A, c, ds, rfl, hr, hl, hw⟩ := open_dels (hval 2 60 v2 rfl rfl) h2
  refine (lawRun_any x y A c ds W hS (wf_u8 wy) hr (fun d hd => (hw d hd).1) (fun d hd => (hw d hd).2) hl).mono fun e W' ⟨he, hb⟩ => ?_
  subst he
  exact ⟨_, rfl, _, _, _, [], _, [], hW', trodAll_mk1 (shut_bool Tryd.underlying4 _), trodAll_below laidOut hb _ run_rd hA' (fun x hx => hlt x (List.mem_append_left _ hx)), rfl, hb.frame _, fun h => by cases h⟩

theorem run_said : Rows.ActuatorsRunSaid :=
  OpenClaim.holds_of_wide 5 Tryd.f5 rfl rfl rfl rfl rfl rfl rfl ⟨rfl, rfl, rfl, rfl, rfl⟩ rfl rfl rfl rfl rfl (by kernel_rfl) Tryd.func5 (by kernel_rfl)
    (of_decide_eq_true (by kernel_rfl)) (by unfold Func.isWrapper; first | (rw [if_pos (by decide +kernel)]; kernel_rfl) | (rw [if_neg (by decide +kernel)]; exact ⟨rfl, rfl⟩))
    (fun os started H enc _ => run_lifted os started H enc)
end Go.Proofs.YtmpkpikamogpdaaDoor.K
namespace Go.Proofs.YtmpkpikamogpdaaDoor
open Go
theorem actuatorsRun_card : Rows.ActuatorsRunCardSaid :=
  Claim7.holds_tied_plain_at .later [] [.data] true (true, "a2794afba5f6b4a00b194cf09174bc0e16e80fbad0bca8c107ec50a56772003e") false K.run_said (fun _ h => by cases h) (by kernel_rfl) (fun _ h => by cases h) actuatorsRun_row_tie rfl ⟨rfl, rfl⟩ (by kernel_rfl) rfl
    (fun f fn hf hfn => by
      obtain rfl : f = 5 := Option.some.inj ((show Tryd.prog.funcNamed "sennit/sennitlaw26.ActuatorsRun" = some 5 by kernel_rfl).symm.trans hf) |>.symm
      obtain rfl : fn = Tryd.f5 := (Option.some.inj (Tryd.func5.symm.trans hfn)).symm
      exact ⟨by kernel_rfl, fun j t ht => by
        rw [Tryd.params5] at ht
        have hm : t ∈ [22, 5, 60] := by simpa using Array.mem_of_getElem? ht
        have hall : ([22, 5, 60].all fun u => !Tryd.prog.wantsStandIn u) = true := by kernel_rfl
        exact (show Tryd.prog.wantsStandIn t = false by simpa using List.all_eq_true.1 hall t hm)⟩)
    (by kernel_rfl)
#print axioms actuatorsRun_card
end Go.Proofs.YtmpkpikamogpdaaDoor
