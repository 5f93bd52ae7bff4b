/- sennitlaw26.ActuatorsAny answers true at every input that can be read, and leaves its arguments as they were. Condition: rings.signs reads as the program's text lays it (the tied card says so by the program's text). -/
import Derived.Test.YtmpkpikamogpdaaDoorRowBase
import Derived.Test.YtmpkpikamogpdaaDoorRowCfg
import Derived.Test.YtmpkpikamogpdaaDoorAny
import Derived.Test.YtmpkpikamogpdaaDoorCards
namespace Go.Proofs.YtmpkpikamogpdaaDoor.K
open Go.ChangeShapes Go.WideShapes Go.ChangeAt Go.RowKit

theorem wf_i64 {z : Int} (h : (Lit.int .i64 z).wf = true) : I64 z := by
  have : -9223372036854775808 ≤ z ∧ z ≤ 9223372036854775807 := by simpa [Lit.wf, IntKind.min, IntKind.max, IntKind.signed, IntKind.bits] using h
  exact this
theorem wf_u8 {z : Int} (h : (Lit.int .u8 z).wf = true) : 0 ≤ z ∧ z < 256 := by
  have : 0 ≤ z ∧ z ≤ 255 := by simpa [Lit.wf, IntKind.min, IntKind.max, IntKind.signed, IntKind.bits] using h
  omega

theorem any_rd : ∀ t ∈ Tryd.f4.params.toList, Tryd.prog.readableRec t = true ∧ t < Tryd.prog.types.size := rd_of (by kernel_rfl)
theorem trial_cells : Tryd.prog.cellsOf 46 = 15 := by kernel_rfl
theorem trial_leaves : leavesB Tryd.prog 6 46 [3, 4, 22, 22, 2, 4, 2, 30, 5, 22, 22, 3, 3, 2, 2] = true := by kernel_rfl
theorem list_15 {α : Type} {l : List α} (h : l.length = 15) : ∃ a0 a1 a2 a3 a4 a5 a6 a7 a8 a9 a10 a11 a12 a13 a14, l = [a0, a1, a2, a3, a4, a5, a6, a7, a8, a9, a10, a11, a12, a13, a14] := by
  match l, h with
  | [a0, a1, a2, a3, a4, a5, a6, a7, a8, a9, a10, a11, a12, a13, a14], _ => exact ⟨a0, a1, a2, a3, a4, a5, a6, a7, a8, a9, a10, a11, a12, a13, a14, rfl⟩

set_option maxRecDepth 100000 in
theorem open_trial {H : Type} {enc : TypeId × Value → H} {W : World} {r : Reach} {base b : Nat} {sp : Nat → Bool} {held : Bool} {v : Value} {d : DataW H} {p : List MemPlace}
    (hv : Value.okWide Tryd.prog W r base 46 v) (h : DataW.Trod enc Tryd.prog W b sp held 46 v d p) :
    ∃ (i : Int) (s : ASt) (d : ADl) (r : Int), v = .agg (trialCells i s d r) ∧ I64 r ∧ I64 s.round ∧ (0 ≤ d.station ∧ d.station < 256) := by
  obtain ⟨l, fuel, rfl, hl, ht⟩ := open_struct Tryd.underlying46 hv h
  rw [trial_cells] at hl
  obtain ⟨a0, a1, a2, a3, a4, a5, a6, a7, a8, a9, a10, a11, a12, a13, a14, rfl⟩ := list_15 hl
  obtain ⟨x0, e0, _⟩ := leaf_int trial_leaves ht (i := 0) rfl Tryd.underlying3
  obtain ⟨x1, e1⟩ := leaf_bool trial_leaves ht (i := 1) rfl Tryd.underlying4
  obtain ⟨x2, e2, _⟩ := leaf_int trial_leaves ht (i := 2) rfl Tryd.underlying22
  obtain ⟨x3, e3, _⟩ := leaf_int trial_leaves ht (i := 3) rfl Tryd.underlying22
  obtain ⟨x4, e4, w4⟩ := leaf_int trial_leaves ht (i := 4) rfl Tryd.underlying2
  obtain ⟨x5, e5⟩ := leaf_bool trial_leaves ht (i := 5) rfl Tryd.underlying4
  obtain ⟨x6, e6, _⟩ := leaf_int trial_leaves ht (i := 6) rfl Tryd.underlying2
  obtain ⟨x7, e7, _⟩ := leaf_int trial_leaves ht (i := 7) rfl Tryd.underlying30
  obtain ⟨x8, e8, w8⟩ := leaf_int trial_leaves ht (i := 8) rfl Tryd.underlying5
  obtain ⟨x9, e9, _⟩ := leaf_int trial_leaves ht (i := 9) rfl Tryd.underlying22
  obtain ⟨x10, e10, _⟩ := leaf_int trial_leaves ht (i := 10) rfl Tryd.underlying22
  obtain ⟨x11, e11, _⟩ := leaf_int trial_leaves ht (i := 11) rfl Tryd.underlying3
  obtain ⟨x12, e12, _⟩ := leaf_int trial_leaves ht (i := 12) rfl Tryd.underlying3
  obtain ⟨x13, e13, _⟩ := leaf_int trial_leaves ht (i := 13) rfl Tryd.underlying2
  obtain ⟨x14, e14, w14⟩ := leaf_int trial_leaves ht (i := 14) rfl Tryd.underlying2
  simp at e0 e1 e2 e3 e4 e5 e6 e7 e8 e9 e10 e11 e12 e13 e14
  subst e0 e1 e2 e3 e4 e5 e6 e7 e8 e9 e10 e11 e12 e13 e14
  exact ⟨x0, ⟨x1, x2, x3, x4⟩, ⟨x5, x6, x7, x8, x9, x10, x11, x12, x13⟩, x14, rfl, wf_i64 w14, wf_i64 w4, wf_u8 w8⟩

theorem lawAny_any (n : Int) (A1 : Option Addr) (c1 : Nat) (ps : List Int) (A2 : Option Addr) (c2 : Nat) (ss : List Int) (long : Int) (A3 : Option Addr) (c3 : Nat) (bs : List Int) (A4 : Option Addr) (c4 : Nat) (st : List Stn) (miss good fresh : Int) (i : Int) (s : ASt) (d : ADl) (r : Int) (w : World) (hs : Signs w) (r1 : RdI w A1 ps) (r2 : RdI w A2 ss) (r3 : RdI w A3 bs) (r4 : RdV w A4 (stnCells st)) (n1 : A1 = none → ps.length = 0) (n2 : A2 = none → ss.length = 0) (n3 : A3 = none → bs.length = 0) (n4 : A4 = none → st.length = 0)
    (hr : I64 r) (hsr : I64 s.round) (hd : 0 ≤ d.station ∧ d.station < 256) :
    Calls Tryd.prog 4 #[(.agg #[.int .i64 n, .slice A1 ps.length c1, .slice A2 ss.length c2, .int .i64 long, .slice A3 bs.length c3, .slice A4 st.length c4, .int .i64 miss, .int .i64 good, .int .i64 fresh]), .agg (trialCells i s d r)] w fun e w' => e = .returned (.bool true) ∧ Below w.heap.size w w' := by
  by_cases hg : 60 < ps.length ∨ 60 < ss.length ∨ 60 < bs.length ∨ 60 < st.length
  · exact lawAny_great n A1 c1 ps A2 c2 ss long A3 c3 bs A4 c4 st miss good fresh _ w hs hg
  · have hc : CfgIn w A1 ps A2 ss A3 bs A4 st := ⟨hs, r1, r2, r3, r4, by omega, by omega, by omega, by omega, n1, n2, n3, n4⟩
    by_cases hb : newE ⟨n, ps, ss, long, bs, st, miss, good, fresh⟩ = 0
    · exact lawAny_ok n A1 c1 ps A2 c2 ss long A3 c3 bs A4 c4 st miss good fresh i s d r w hc (by omega) (by omega) (by omega) (by omega) hb hr hsr hd
    · exact lawAny_bad n A1 c1 ps A2 c2 ss long A3 c3 bs A4 c4 st miss good fresh i s d r w hc (by omega) (by omega) (by omega) (by omega) hb hr hsr hd

def zeroCfg : Value := .agg #[.int .i64 0, .slice none 0 0, .slice none 0 0, .int .i64 0, .slice none 0 0, .slice none 0 0, .int .i64 0, .int .i64 0, .int .i64 0]

set_option maxRecDepth 100000 in
theorem any_lifted (os : Os) (started : os.Started) (H : Type) (enc : TypeId × Value → H) :
    ReturnsInHanded {} Tryd.checked os 4 .any (fun w args => (Rows.actuatorsAnySpec.pre enc Tryd.prog Tryd.f4 [] false w args ∧ laidMetH Tryd.prog laidS w) ∧ sizedMet enc Tryd.prog Tryd.f4 (OpenSpec.ofChange Rows.actuatorsAnySpec) false w args)
      (Rows.actuatorsAnySpec.post enc Tryd.prog Tryd.f4 false true false false) := by
  refine returnsInHanded_of_change_and (C := Tryd.checked) (X := fun w _ => laidMetH Tryd.prog laidS w) (fun _ _ _ hh h => h.of_heap hh) own started (by kernel_rfl) Tryd.func4
    (ChangeSpec.witness_shaped (enc := enc) (C := Tryd.checked) (os := os) (X := fun w _ => laidMetH Tryd.prog laidS w) false (World.laidAll Tryd.prog os laidS) #[zeroCfg, .agg (trialCells 0 ⟨false, 0, 0, 0⟩ ⟨false, 0, 0, 0, 0, 0, 0, 0, 0⟩ 0)] 8 (World.laidAll_os _ _ _)
      (World.shaped_of_ZipB (by kernel_rfl) (by kernel_rfl)) (by kernel_rfl) (by kernel_rfl) (by kernel_rfl)
      (by rw [MakeChecks.laidMetH_plain _ _ _ (by kernel_rfl)]; exact laidMet_laidAll _ (by kernel_rfl) (by kernel_rfl))) ?_
  intro W base args ds gs before hval0 hW _ _ hL _
  have hval : ∀ (j : Nat) t v, Tryd.f4.params[j]? = some t → args[j]? = some v → Value.okWide Tryd.prog W .any base t v := hval0
  have hS := signs_of_laid hL
  have hW' := hW
  have hlt : ∀ x ∈ before, x.block < W.heap.size := fun x hx => hW.lt x hx
  obtain ⟨p, q, hA0, hV, rfl, _, _⟩ := hW
  have hA : DataW.TrodAll enc Tryd.prog W 0 (fun _ => true) true Tryd.f4.params.toList args.toList ds p := hA0
  have hA' := hA
  rw [Tryd.params4] at hA hval
  obtain ⟨v0, v1, d0, d1, p0, p1, ea, rfl, rfl, h0, h1⟩ := trodAll_two hA
  obtain ⟨rfl, rfl⟩ := trodVars_none hV
  subst ea
  obtain ⟨n, A1, c1, ps, A2, c2, ss, long, A3, c3, bs, A4, c4, st, miss, good, fresh, rfl, r1, r2, r3, r4, n1, n2, n3, n4⟩ := open_cfg (hval 0 44 v0 rfl rfl) h0
  obtain ⟨i, s, d, r, rfl, hr, hsr, hd⟩ := open_trial (hval 1 46 v1 rfl rfl) h1
  refine (lawAny_any n A1 c1 ps A2 c2 ss long A3 c3 bs A4 c4 st miss good fresh i s d r W hS r1 r2 r3 r4 n1 n2 n3 n4 hr hsr hd).mono fun e W' ⟨he, hb⟩ => ?_
  subst he
  exact ⟨_, rfl, _, _, _, [], _, [], hW', trodAll_mk1 (shut_bool Tryd.underlying4 _), trodAll_below laidOut hb _ any_rd hA' (fun x hx => hlt x (List.mem_append_left _ hx)), rfl, hb.frame _, fun h => by cases h⟩

theorem any_said : Rows.ActuatorsAnySaid :=
  OpenClaim.holds_of_wide 4 Tryd.f4 rfl rfl rfl rfl rfl rfl rfl ⟨rfl, rfl, rfl, rfl, rfl⟩ rfl rfl rfl rfl rfl (by kernel_rfl) Tryd.func4 (by kernel_rfl)
    (of_decide_eq_true (by kernel_rfl)) (by unfold Func.isWrapper; first | (rw [if_pos (by decide +kernel)]; kernel_rfl) | (rw [if_neg (by decide +kernel)]; exact ⟨rfl, rfl⟩))
    (fun os started H enc _ => any_lifted os started H enc)
end Go.Proofs.YtmpkpikamogpdaaDoor.K
namespace Go.Proofs.YtmpkpikamogpdaaDoor
open Go
theorem actuatorsAny_card : Rows.ActuatorsAnyCardSaid :=
  Claim7.holds_tied_plain_at .later [] [.data] true (true, "a2794afba5f6b4a00b194cf09174bc0e16e80fbad0bca8c107ec50a56772003e") false K.any_said (fun _ h => by cases h) (by kernel_rfl) (fun _ h => by cases h) actuatorsAny_row_tie rfl ⟨rfl, rfl⟩ (by kernel_rfl) rfl
    (fun f fn hf hfn => by
      obtain rfl : f = 4 := Option.some.inj ((show Tryd.prog.funcNamed "sennit/sennitlaw26.ActuatorsAny" = some 4 by kernel_rfl).symm.trans hf) |>.symm
      obtain rfl : fn = Tryd.f4 := (Option.some.inj (Tryd.func4.symm.trans hfn)).symm
      exact ⟨by kernel_rfl, fun j t ht => by
        rw [Tryd.params4] at ht
        have hm : t ∈ [44, 46] := by simpa using Array.mem_of_getElem? ht
        have hall : ([44, 46].all fun u => !Tryd.prog.wantsStandIn u) = true := by kernel_rfl
        exact (show Tryd.prog.wantsStandIn t = false by simpa using List.all_eq_true.1 hall t hm)⟩)
    (by kernel_rfl)
#print axioms actuatorsAny_card
end Go.Proofs.YtmpkpikamogpdaaDoor
