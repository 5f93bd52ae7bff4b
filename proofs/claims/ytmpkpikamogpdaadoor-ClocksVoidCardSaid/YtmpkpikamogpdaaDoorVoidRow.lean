/- sennitlaw06.ClocksVoid answers true at every input that can be read, and leaves its arguments as they were. Condition: rings.signs reads as the program's text lays it (the tied card says so by the program's text). -/
import Derived.Test.YtmpkpikamogpdaaDoorRowBase
import Derived.Test.YtmpkpikamogpdaaDoorRowCfg
import Derived.Test.YtmpkpikamogpdaaDoorVoid
import Derived.Test.YtmpkpikamogpdaaDoorCards
namespace Go.Proofs.YtmpkpikamogpdaaDoor.K
open Go.ChangeShapes Go.WideShapes Go.ChangeAt Go.RowKit

theorem clocksVoid_rd : ∀ t ∈ Tryd.f9.params.toList, Tryd.prog.readableRec t = true ∧ t < Tryd.prog.types.size := rd_of (by kernel_rfl)

theorem tm_leaves : leavesB Tryd.prog 4 64 [2, 3, 3] = true := by kernel_rfl
theorem tm_cells : Tryd.prog.cellsOf 64 = 3 := by kernel_rfl
set_option maxRecDepth 100000 in
theorem open_tm {H : Type} {enc : TypeId × Value → H} {W : World} {r : Reach} {base b : Nat} {sp : Nat → Bool} {held : Bool} {v : Value} {d : DataW H} {p : List MemPlace}
    (hv : Value.okWide Tryd.prog W r base 64 v) (h : DataW.Trod enc Tryd.prog W b sp held 64 v d p) : ∃ x y z : Int, v = .agg #[.int .i64 x, .int .i64 y, .int .i64 z] := by
  obtain ⟨l, fuel, rfl, hl, ht⟩ := open_struct Tryd.underlying64 hv h
  rw [tm_cells] at hl
  obtain ⟨a0, a1, a2, rfl⟩ := list_3 hl
  obtain ⟨x, e0, _⟩ := leaf_int tm_leaves ht (i := 0) rfl Tryd.underlying2
  obtain ⟨y, e1, _⟩ := leaf_int tm_leaves ht (i := 1) rfl Tryd.underlying3
  obtain ⟨z, e2, _⟩ := leaf_int tm_leaves ht (i := 2) rfl Tryd.underlying3
  simp at e0 e1 e2
  subst e0 e1 e2
  exact ⟨x, y, z, rfl⟩

set_option maxRecDepth 100000 in
theorem clocksVoid_lifted (os : Os) (started : os.Started) (H : Type) (enc : TypeId × Value → H) :
    ReturnsInHanded {} Tryd.checked os 9 .any (fun w args => (Rows.clocksVoidSpec.pre enc Tryd.prog Tryd.f9 [] false w args ∧ laidMetH Tryd.prog laidS w) ∧ sizedMet enc Tryd.prog Tryd.f9 (OpenSpec.ofChange Rows.clocksVoidSpec) false w args)
      (Rows.clocksVoidSpec.post enc Tryd.prog Tryd.f9 false true false false) := by
  refine returnsInHanded_of_change_and (C := Tryd.checked) (X := fun w _ => laidMetH Tryd.prog laidS w) (fun _ _ _ hh h => h.of_heap hh) own started (by kernel_rfl) Tryd.func9
    (ChangeSpec.witness_shaped (enc := enc) (C := Tryd.checked) (os := os) (X := fun w _ => laidMetH Tryd.prog laidS w) false (World.laidAll Tryd.prog os laidS) #[.int .i64 0, .agg #[.int .i64 0, .int .i64 0, .int .i64 0]] 8 (World.laidAll_os _ _ _)
      (World.shaped_of_ZipB (by kernel_rfl) (by kernel_rfl)) (by kernel_rfl) (by kernel_rfl) (by kernel_rfl)
      (by rw [MakeChecks.laidMetH_plain _ _ _ (by kernel_rfl)]; exact laidMet_laidAll _ (by kernel_rfl) (by kernel_rfl))) ?_
  intro W base args ds gs before hval0 hW _ _ hL _
  have hval : ∀ (j : Nat) t v, Tryd.f9.params[j]? = some t → args[j]? = some v → Value.okWide Tryd.prog W .any base t v := hval0
  have hS := signs_of_laid hL
  have hW' := hW
  have hlt : ∀ x ∈ before, x.block < W.heap.size := fun x hx => hW.lt x hx
  obtain ⟨p, q, hA0, hV, rfl, _, _⟩ := hW
  have hA : DataW.TrodAll enc Tryd.prog W 0 (fun _ => true) true Tryd.f9.params.toList args.toList ds p := hA0
  have hA' := hA
  rw [Tryd.params9] at hA hval
  obtain ⟨v0, v1, d0, d1, p0, p1, ea, rfl, rfl, h0, h1⟩ := trodAll_two hA
  obtain ⟨rfl, rfl⟩ := trodVars_none hV
  subst ea
  obtain ⟨x, rfl, -, -, _⟩ := open_int Tryd.underlying2 (hval 0 2 v0 rfl rfl) h0
  obtain ⟨a, b, c, rfl⟩ := open_tm (hval 1 64 v1 rfl rfl) h1
  refine (lawVoid_any x a b c W hS).mono fun e W' ⟨he, hb⟩ => ?_
  subst he
  exact ⟨_, rfl, _, _, _, [], _, [], hW', trodAll_mk1 (shut_bool Tryd.underlying4 _), trodAll_below laidOut hb _ clocksVoid_rd hA' (fun x hx => hlt x (List.mem_append_left _ hx)), rfl, hb.frame _, fun h => by cases h⟩

theorem clocksVoid_said : Rows.ClocksVoidSaid :=
  OpenClaim.holds_of_wide 9 Tryd.f9 rfl rfl rfl rfl rfl rfl rfl ⟨rfl, rfl, rfl, rfl, rfl⟩ rfl rfl rfl rfl rfl (by kernel_rfl) Tryd.func9 (by kernel_rfl)
    (of_decide_eq_true (by kernel_rfl)) (by unfold Func.isWrapper; first | (rw [if_pos (by decide +kernel)]; kernel_rfl) | (rw [if_neg (by decide +kernel)]; exact ⟨rfl, rfl⟩))
    (fun os started H enc _ => clocksVoid_lifted os started H enc)
end Go.Proofs.YtmpkpikamogpdaaDoor.K
namespace Go.Proofs.YtmpkpikamogpdaaDoor
open Go
theorem clocksVoid_card : Rows.ClocksVoidCardSaid :=
  Claim7.holds_tied_plain_at .later [] [.data] true (true, "a2794afba5f6b4a00b194cf09174bc0e16e80fbad0bca8c107ec50a56772003e") false K.clocksVoid_said (fun _ h => by cases h) (by kernel_rfl) (fun _ h => by cases h) clocksVoid_row_tie rfl ⟨rfl, rfl⟩ (by kernel_rfl) rfl
    (fun f fn hf hfn => by
      obtain rfl : f = 9 := Option.some.inj ((show Tryd.prog.funcNamed "sennit/sennitlaw06.ClocksVoid" = some 9 by kernel_rfl).symm.trans hf) |>.symm
      obtain rfl : fn = Tryd.f9 := (Option.some.inj (Tryd.func9.symm.trans hfn)).symm
      exact ⟨by kernel_rfl, fun j t ht => by
        rw [Tryd.params9] at ht
        have hm : t ∈ [2, 64] := by simpa using Array.mem_of_getElem? ht
        have hall : ([2, 64].all fun u => !Tryd.prog.wantsStandIn u) = true := by kernel_rfl
        exact (show Tryd.prog.wantsStandIn t = false by simpa using List.all_eq_true.1 hall t hm)⟩)
    (by kernel_rfl)
#print axioms clocksVoid_card
end Go.Proofs.YtmpkpikamogpdaaDoor
