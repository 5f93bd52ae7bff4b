/- sennitlaw28.ModelsChoose answers true at every input that can be read, and leaves its arguments as they were. Condition: modes.edges reads as the program's text lays it (the tied card says so by the program's text). -/
import Derived.Test.YtpcabnnihdjhpaaDoorRowBase
import Derived.Test.YtpcabnnihdjhpaaDoorFlat
import Derived.Test.YtpcabnnihdjhpaaDoorChoose
import Derived.Test.YtpcabnnihdjhpaaDoorCards
namespace Go.Proofs.YtpcabnnihdjhpaaDoor.K
open Go.ChangeShapes Go.WideShapes Go.ChangeAt Go.RowKit

theorem modelsChoose_rd : ∀ t ∈ Tryd.f3.params.toList, Tryd.prog.readableRec t = true ∧ t < Tryd.prog.types.size := rd_of (by kernel_rfl)
theorem list_12 {α : Type} {l : List α} (h : l.length = 12) : ∃ a0 a1 a2 a3 a4 a5 a6 a7 a8 a9 a10 a11, l = [a0, a1, a2, a3, a4, a5, a6, a7, a8, a9, a10, a11] := by
  match l, h with
  | [a0, a1, a2, a3, a4, a5, a6, a7, a8, a9, a10, a11], _ => exact ⟨a0, a1, a2, a3, a4, a5, a6, a7, a8, a9, a10, a11, rfl⟩
theorem two_leaves : leavesB Tryd.prog 5 28 [4, 2, 22, 5, 23, 23, 4, 2, 22, 5, 23, 23] = true := by kernel_rfl
theorem two_cells : Tryd.prog.cellsOf 28 = 12 := by kernel_rfl
set_option maxRecDepth 100000 in
theorem open_two {H : Type} {enc : TypeId × Value → H} {W : World} {r : Reach} {base b : Nat} {sp : Nat → Bool} {held : Bool} {v : Value} {d : DataW H} {p : List MemPlace}
    (hv : Value.okWide Tryd.prog W r base 28 v) (h : DataW.Trod enc Tryd.prog W b sp held 28 v d p) :
    ∃ (x0 x6 : Bool) (x1 x2 x3 x4 x5 x7 x8 x9 x10 x11 : Int), v = .agg #[.bool x0, .int .i64 x1, .int .u8 x2, .int .u8 x3, .int .u32 x4, .int .u32 x5, .bool x6, .int .i64 x7, .int .u8 x8, .int .u8 x9, .int .u32 x10, .int .u32 x11] := by
  obtain ⟨cs, rfl, hl⟩ := okWide_array Tryd.underlying28 hv
  obtain ⟨fuel, ht⟩ := h
  rw [two_cells] at hl
  obtain ⟨l⟩ := cs
  obtain ⟨a0, a1, a2, a3, a4, a5, a6, a7, a8, a9, a10, a11, rfl⟩ := list_12 (show l.length = 12 from hl)
  have ht : DataW.trod enc Tryd.prog W b sp held fuel 28 [a0, a1, a2, a3, a4, a5, a6, a7, a8, a9, a10, a11] = some (d, p) := ht
  obtain ⟨x0, e0⟩ := leaf_bool two_leaves ht (i := 0) rfl Tryd.underlying4
  obtain ⟨x1, e1, _⟩ := leaf_int two_leaves ht (i := 1) rfl Tryd.underlying2
  obtain ⟨x2, e2, _⟩ := leaf_int two_leaves ht (i := 2) rfl Tryd.underlying22
  obtain ⟨x3, e3, _⟩ := leaf_int two_leaves ht (i := 3) rfl Tryd.underlying5
  obtain ⟨x4, e4, _⟩ := leaf_int two_leaves ht (i := 4) rfl Tryd.underlying23
  obtain ⟨x5, e5, _⟩ := leaf_int two_leaves ht (i := 5) rfl Tryd.underlying23
  obtain ⟨x6, e6⟩ := leaf_bool two_leaves ht (i := 6) rfl Tryd.underlying4
  obtain ⟨x7, e7, _⟩ := leaf_int two_leaves ht (i := 7) rfl Tryd.underlying2
  obtain ⟨x8, e8, _⟩ := leaf_int two_leaves ht (i := 8) rfl Tryd.underlying22
  obtain ⟨x9, e9, _⟩ := leaf_int two_leaves ht (i := 9) rfl Tryd.underlying5
  obtain ⟨x10, e10, _⟩ := leaf_int two_leaves ht (i := 10) rfl Tryd.underlying23
  obtain ⟨x11, e11, _⟩ := leaf_int two_leaves ht (i := 11) rfl Tryd.underlying23
  simp at e0 e1 e2 e3 e4 e5 e6 e7 e8 e9 e10 e11
  subst e0 e1 e2 e3 e4 e5 e6 e7 e8 e9 e10 e11
  exact ⟨x0, x6, x1, x2, x3, x4, x5, x7, x8, x9, x10, x11, rfl⟩

set_option maxRecDepth 100000 in
theorem modelsChoose_lifted (os : Os) (started : os.Started) (H : Type) (enc : TypeId × Value → H) :
    ReturnsInHanded {} Tryd.checked os 3 .any (fun w args => (Rows.modelsChooseSpec.pre enc Tryd.prog Tryd.f3 [] false w args ∧ laidMetH Tryd.prog laidS w) ∧ sizedMet enc Tryd.prog Tryd.f3 (OpenSpec.ofChange Rows.modelsChooseSpec) false w args)
      (Rows.modelsChooseSpec.post enc Tryd.prog Tryd.f3 false true false false) := by
  refine returnsInHanded_of_change_and (C := Tryd.checked) (X := fun w _ => laidMetH Tryd.prog laidS w) (fun _ _ _ hh h => h.of_heap hh) own started (by kernel_rfl) Tryd.func3
    (ChangeSpec.witness_shaped (enc := enc) (C := Tryd.checked) (os := os) (X := fun w _ => laidMetH Tryd.prog laidS w) false (World.laidAll Tryd.prog os laidS) #[.agg #[.bool false, .int .i64 0, .int .u8 0, .int .u8 0, .int .u32 0, .int .u32 0, .bool false, .int .i64 0, .int .u8 0, .int .u8 0, .int .u32 0, .int .u32 0], .int .i64 0, .bool false] 8 (World.laidAll_os _ _ _)
      (World.shaped_of_ZipB (by kernel_rfl) (by kernel_rfl)) (by kernel_rfl) (by kernel_rfl) (by kernel_rfl)
      (by rw [MakeChecks.laidMetH_plain _ _ _ (by kernel_rfl)]; exact laidMet_laidAll _ (by kernel_rfl) (by kernel_rfl))) ?_
  intro W base args ds gs before hval0 hW _ _ _ _
  have hval : ∀ (j : Nat) t v, Tryd.f3.params[j]? = some t → args[j]? = some v → Value.okWide Tryd.prog W .any base t v := hval0
  have hW' := hW
  have hlt : ∀ x ∈ before, x.block < W.heap.size := fun x hx => hW.lt x hx
  obtain ⟨p, q, hA0, hV, rfl, _, _⟩ := hW
  have hA : DataW.TrodAll enc Tryd.prog W 0 (fun _ => true) true Tryd.f3.params.toList args.toList ds p := hA0
  have hA' := hA
  rw [Tryd.params3] at hA hval
  obtain ⟨v0, v1, v2, d0, d1, d2, p0, p1, p2, ea, rfl, rfl, h0, h1, h2⟩ := trodAll_three hA
  obtain ⟨rfl, rfl⟩ := trodVars_none hV
  subst ea
  obtain ⟨x0, x6, x1, x2, x3, x4, x5, x7, x8, x9, x10, x11, rfl⟩ := open_two (hval 0 28 v0 rfl rfl) h0
  obtain ⟨f, rfl, -, -, _⟩ := open_int Tryd.underlying3 (hval 1 3 v1 rfl rfl) h1
  obtain ⟨g, rfl, -, -⟩ := open_bool Tryd.underlying4 (hval 2 4 v2 rfl rfl) h2
  refine (lawChoose_any ⟨x0, x1, x2, x3, x4, x5⟩ ⟨x6, x7, x8, x9, x10, x11⟩ f g W).mono fun e W' ⟨he, hb⟩ => ?_
  subst he
  exact ⟨_, rfl, _, _, _, [], _, [], hW', trodAll_mk1 (shut_bool Tryd.underlying4 _), trodAll_below laidOut hb _ modelsChoose_rd hA' (fun x hx => hlt x (List.mem_append_left _ hx)), rfl, hb.frame _, fun h => by cases h⟩

theorem modelsChoose_said : Rows.ModelsChooseSaid :=
  OpenClaim.holds_of_wide 3 Tryd.f3 rfl rfl rfl rfl rfl rfl rfl ⟨rfl, rfl, rfl, rfl, rfl⟩ rfl rfl rfl rfl rfl (by kernel_rfl) Tryd.func3 (by kernel_rfl)
    (of_decide_eq_true (by kernel_rfl)) (by unfold Func.isWrapper; first | (rw [if_pos (by decide +kernel)]; kernel_rfl) | (rw [if_neg (by decide +kernel)]; exact ⟨rfl, rfl⟩))
    (fun os started H enc _ => modelsChoose_lifted os started H enc)
end Go.Proofs.YtpcabnnihdjhpaaDoor.K
namespace Go.Proofs.YtpcabnnihdjhpaaDoor
open Go
theorem modelsChoose_card : Rows.ModelsChooseCardSaid :=
  Claim7.holds_tied_plain_at .later [] [.data] true (true, "2f4f85988bef7495e377f2a39c8e4d9e68a3d17b4d01308cbc94b86d0abf10c6") false K.modelsChoose_said (fun _ h => by cases h) (by kernel_rfl) (fun _ h => by cases h) modelsChoose_row_tie rfl ⟨rfl, rfl⟩ (by kernel_rfl) rfl
    (fun f fn hf hfn => by
      obtain rfl : f = 3 := Option.some.inj ((show Tryd.prog.funcNamed "sennit/sennitlaw28.ModelsChoose" = some 3 by kernel_rfl).symm.trans hf) |>.symm
      obtain rfl : fn = Tryd.f3 := (Option.some.inj (Tryd.func3.symm.trans hfn)).symm
      exact ⟨by kernel_rfl, fun j t ht => by
        rw [Tryd.params3] at ht
        have hm : t ∈ [28, 3, 4] := by simpa using Array.mem_of_getElem? ht
        have hall : ([28, 3, 4].all fun u => !Tryd.prog.wantsStandIn u) = true := by kernel_rfl
        exact (show Tryd.prog.wantsStandIn t = false by simpa using List.all_eq_true.1 hall t hm)⟩)
    (by kernel_rfl)
#print axioms modelsChoose_card
end Go.Proofs.YtpcabnnihdjhpaaDoor
