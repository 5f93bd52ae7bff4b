/- sennitlaw06.ClocksWhole answers true at every input that can be read, and leaves its arguments as they were. Condition: rings.signs reads as the program's text lays it (the tied card says so by the program's text). -/
import Derived.Test.YtmpkpikamogpdaaDoorRowBase
import Derived.Test.YtmpkpikamogpdaaDoorRowCfg
import Derived.Test.YtmpkpikamogpdaaDoorWhole2
import Derived.Test.YtmpkpikamogpdaaDoorCards
namespace Go.Proofs.YtmpkpikamogpdaaDoor.K
open Go.ChangeShapes Go.WideShapes Go.ChangeAt Go.RowKit

theorem clocksWhole_rd : ∀ t ∈ Tryd.f8.params.toList, Tryd.prog.readableRec t = true ∧ t < Tryd.prog.types.size := rd_of (by kernel_rfl)

theorem wf_i64 {z : Int} (h : (Lit.int .i64 z).wf = true) : I64 z := by
  have : -9223372036854775808 ≤ z ∧ z ≤ 9223372036854775807 := by simpa [Lit.wf, IntKind.min, IntKind.max, IntKind.signed, IntKind.bits] using h
  exact this
theorem wf_u16 {z : Int} (h : (Lit.int .u16 z).wf = true) : 0 ≤ z ∧ z < 65536 := by
  have : 0 ≤ z ∧ z ≤ 65535 := by simpa [Lit.wf, IntKind.min, IntKind.max, IntKind.signed, IntKind.bits] using h
  omega
theorem list_4 {α : Type} {l : List α} (h : l.length = 4) : ∃ a b c d, l = [a, b, c, d] := by
  match l, h with
  | [a, b, c, d], _ => exact ⟨a, b, c, d, rfl⟩
theorem stp_cells : Tryd.prog.cellsOf 84 = 4 := by kernel_rfl
theorem stp_leaves : leavesB Tryd.prog 4 84 [2, 82, 4, 4] = true := by kernel_rfl

set_option maxRecDepth 100000 in
theorem open_stps {H : Type} {enc : TypeId × Value → H} {W : World} {r : Reach} {base b : Nat} {sp : Nat → Bool} {held : Bool} {v : Value} {d : DataW H} {p : List MemPlace}
    (hv : Value.okWide Tryd.prog W r base 79 v) (h : DataW.Trod enc Tryd.prog W b sp held 79 v d p) :
    ∃ (A : Option Addr) (c : Nat) (ds : List Stp), v = .slice A ds.length c ∧ RdV W A (stpCells ds) ∧ ds.length ≤ 9223372036854775807 ∧ ∀ d ∈ ds, (0 ≤ d.many ∧ d.many < 65536) ∧ I64 d.age := by
  obtain ⟨a0, len, cap, rfl⟩ := okWide_slice Tryd.underlying79 hv
  obtain ⟨fuel, hf⟩ := h
  obtain ⟨A, c, rows, e, _, hl, hr, hrow⟩ := open_rows Tryd.underlying79 (by rw [stp_cells]; omega) hf
  obtain ⟨ds, rfl, hw⟩ := rows_of Stp.list (fun d => (0 ≤ d.many ∧ d.many < 65536) ∧ I64 d.age) fun l hl => by
    obtain ⟨hll, n, y, hy⟩ := hrow l hl
    rw [stp_cells] at hll
    obtain ⟨a0, a1, a2, a3, rfl⟩ := list_4 hll
    obtain ⟨x0, e0, w0⟩ := leaf_int stp_leaves hy (i := 0) rfl Tryd.underlying2
    obtain ⟨x1, e1, w1⟩ := leaf_int stp_leaves hy (i := 1) rfl Tryd.underlying82
    obtain ⟨x2, e2⟩ := leaf_bool stp_leaves hy (i := 2) rfl Tryd.underlying4
    obtain ⟨x3, e3⟩ := leaf_bool stp_leaves hy (i := 3) rfl Tryd.underlying4
    simp at e0 e1 e2 e3
    subst e0 e1 e2 e3
    exact ⟨⟨x0, x1, x2, x3⟩, rfl, wf_u16 w1, wf_i64 w0⟩
  have hv : Value.slice a0 len cap = .slice A (ds.map Stp.list).length c := by simpa [Value.cells] using e
  exact ⟨A, c, ds, by rw [hv, List.length_map], by simpa [stpCells, List.flatMap] using hr, by simpa [maxLen] using hl, hw⟩

set_option maxRecDepth 100000 in
theorem clocksWhole_lifted (os : Os) (started : os.Started) (H : Type) (enc : TypeId × Value → H) :
    ReturnsInHanded {} Tryd.checked os 8 .any (fun w args => (Rows.clocksWholeSpec.pre enc Tryd.prog Tryd.f8 [] false w args ∧ laidMetH Tryd.prog laidS w) ∧ sizedMet enc Tryd.prog Tryd.f8 (OpenSpec.ofChange Rows.clocksWholeSpec) false w args)
      (Rows.clocksWholeSpec.post enc Tryd.prog Tryd.f8 false true false false) := by
  refine returnsInHanded_of_change_and (C := Tryd.checked) (X := fun w _ => laidMetH Tryd.prog laidS w) (fun _ _ _ hh h => h.of_heap hh) own started (by kernel_rfl) Tryd.func8
    (ChangeSpec.witness_shaped (enc := enc) (C := Tryd.checked) (os := os) (X := fun w _ => laidMetH Tryd.prog laidS w) false (World.laidAll Tryd.prog os laidS) #[.agg #[.int .i64 0, .slice none 0 0, .slice none 0 0, .int .i64 0, .slice none 0 0, .slice none 0 0, .int .i64 0, .int .i64 0, .int .i64 0], .slice none 0 0] 8 (World.laidAll_os _ _ _)
      (World.shaped_of_ZipB (by kernel_rfl) (by kernel_rfl)) (by kernel_rfl) (by kernel_rfl) (by kernel_rfl)
      (by rw [MakeChecks.laidMetH_plain _ _ _ (by kernel_rfl)]; exact laidMet_laidAll _ (by kernel_rfl) (by kernel_rfl))) ?_
  intro W base args ds gs before hval0 hW _ _ hL _
  have hval : ∀ (j : Nat) t v, Tryd.f8.params[j]? = some t → args[j]? = some v → Value.okWide Tryd.prog W .any base t v := hval0
  have hS := signs_of_laid hL
  have hW' := hW
  have hlt : ∀ x ∈ before, x.block < W.heap.size := fun x hx => hW.lt x hx
  obtain ⟨p, q, hA0, hV, rfl, _, _⟩ := hW
  have hA : DataW.TrodAll enc Tryd.prog W 0 (fun _ => true) true Tryd.f8.params.toList args.toList ds p := hA0
  have hA' := hA
  rw [Tryd.params8] at hA hval
  obtain ⟨v0, v1, d0, d1, p0, p1, ea, rfl, rfl, h0, h1⟩ := trodAll_two hA
  obtain ⟨rfl, rfl⟩ := trodVars_none hV
  subst ea
  obtain ⟨n, A1, c1, ps, A2, c2, ss, long, A3, c3, bs, A4, c4, st, miss, good, fresh, rfl, r1, r2, r3, r4, n1, n2, n3, n4⟩ := open_cfg (hval 0 44 v0 rfl rfl) h0
  obtain ⟨B0, cb, ds, rfl, hr, hl, hw⟩ := open_stps (hval 1 79 v1 rfl rfl) h1
  refine (lawWhole_any n A1 c1 ps A2 c2 ss long A3 c3 bs A4 c4 st miss good fresh B0 cb ds W hS r1 r2 r3 r4 n1 n2 n3 n4 hr hw hl).mono fun e W' ⟨he, hb⟩ => ?_
  subst he
  exact ⟨_, rfl, _, _, _, [], _, [], hW', trodAll_mk1 (shut_bool Tryd.underlying4 _), trodAll_below laidOut hb _ clocksWhole_rd hA' (fun x hx => hlt x (List.mem_append_left _ hx)), rfl, hb.frame _, fun h => by cases h⟩

theorem clocksWhole_said : Rows.ClocksWholeSaid :=
  OpenClaim.holds_of_wide 8 Tryd.f8 rfl rfl rfl rfl rfl rfl rfl ⟨rfl, rfl, rfl, rfl, rfl⟩ rfl rfl rfl rfl rfl (by kernel_rfl) Tryd.func8 (by kernel_rfl)
    (of_decide_eq_true (by kernel_rfl)) (by unfold Func.isWrapper; first | (rw [if_pos (by decide +kernel)]; kernel_rfl) | (rw [if_neg (by decide +kernel)]; exact ⟨rfl, rfl⟩))
    (fun os started H enc _ => clocksWhole_lifted os started H enc)
end Go.Proofs.YtmpkpikamogpdaaDoor.K
namespace Go.Proofs.YtmpkpikamogpdaaDoor
open Go
theorem clocksWhole_card : Rows.ClocksWholeCardSaid :=
  Claim7.holds_tied_plain_at .later [] [.data] true (true, "a2794afba5f6b4a00b194cf09174bc0e16e80fbad0bca8c107ec50a56772003e") false K.clocksWhole_said (fun _ h => by cases h) (by kernel_rfl) (fun _ h => by cases h) clocksWhole_row_tie rfl ⟨rfl, rfl⟩ (by kernel_rfl) rfl
    (fun f fn hf hfn => by
      obtain rfl : f = 8 := Option.some.inj ((show Tryd.prog.funcNamed "sennit/sennitlaw06.ClocksWhole" = some 8 by kernel_rfl).symm.trans hf) |>.symm
      obtain rfl : fn = Tryd.f8 := (Option.some.inj (Tryd.func8.symm.trans hfn)).symm
      exact ⟨by kernel_rfl, fun j t ht => by
        rw [Tryd.params8] at ht
        have hm : t ∈ [44, 79] := by simpa using Array.mem_of_getElem? ht
        have hall : ([44, 79].all fun u => !Tryd.prog.wantsStandIn u) = true := by kernel_rfl
        exact (show Tryd.prog.wantsStandIn t = false by simpa using List.all_eq_true.1 hall t hm)⟩)
    (by kernel_rfl)
#print axioms clocksWhole_card
end Go.Proofs.YtmpkpikamogpdaaDoor
