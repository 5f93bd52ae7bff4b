/- sennitlaw22.MembersRun answers true at every input that can be read, and leaves its arguments as they were. Condition: rings.signs reads as the program's text lays it (the tied card says so by the program's text). -/
import Derived.Test.YtbmbaalidehoeaaDoorRowBase
import Derived.Test.YtbmbaalidehoeaaDoorRowCfg
import Derived.Test.YtbmbaalidehoeaaDoorRunA
import Derived.Test.YtbmbaalidehoeaaDoorCards
namespace Go.Proofs.YtbmbaalidehoeaaDoor.K
open Go.ChangeShapes Go.WideShapes Go.ChangeAt Go.RowKit

theorem membersRun_rd : ∀ t ∈ Tryd.f3.params.toList, Tryd.prog.readableRec t = true ∧ t < Tryd.prog.types.size := rd_of (by kernel_rfl)

set_option maxRecDepth 100000 in
theorem membersRun_lifted (os : Os) (started : os.Started) (H : Type) (enc : TypeId × Value → H) :
    ReturnsInHanded {} Tryd.checked os 3 .any (fun w args => (Rows.membersRunSpec.pre enc Tryd.prog Tryd.f3 [] false w args ∧ laidMetH Tryd.prog laidS w) ∧ sizedMet enc Tryd.prog Tryd.f3 (OpenSpec.ofChange Rows.membersRunSpec) false w args)
      (Rows.membersRunSpec.post enc Tryd.prog Tryd.f3 false true false false) := by
  refine returnsInHanded_of_change_and (C := Tryd.checked) (X := fun w _ => laidMetH Tryd.prog laidS w) (fun _ _ _ hh h => h.of_heap hh) own started (by kernel_rfl) Tryd.func3
    (ChangeSpec.witness_shaped (enc := enc) (C := Tryd.checked) (os := os) (X := fun w _ => laidMetH Tryd.prog laidS w) false (World.laidAll Tryd.prog os laidS) #[.agg #[.int .i64 0, .slice none 0 0, .slice none 0 0, .int .i64 0, .slice none 0 0, .slice none 0 0, .int .i64 0, .int .i64 0, .int .i64 0], .agg #[.bool false, .bool false, .bool false, .bool false, .bool false, .bool false, .bool false, .bool false, .int .u8 0, .int .u8 0, .int .u8 0, .int .u8 0, .int .u8 0, .int .u8 0, .int .u8 0, .int .u8 0, .int .u8 0, .int .u8 0, .int .u8 0, .int .u8 0, .int .u8 0, .int .u8 0, .int .u8 0, .int .u8 0, .int .u16 0, .int .u16 0, .int .u16 0, .int .u16 0, .int .u16 0, .int .u16 0, .int .u16 0, .int .u16 0, .bool false, .bool false, .bool false, .bool false, .bool false, .bool false, .bool false, .bool false, .int .i8 0, .int .u8 0], .slice none 0 0] 8 (World.laidAll_os _ _ _)
      (World.shaped_of_ZipB (by kernel_rfl) (by kernel_rfl)) (by kernel_rfl) (by kernel_rfl) (by kernel_rfl)
      (by rw [MakeChecks.laidMetH_plain _ _ _ (by kernel_rfl)]; exact laidMet_laidAll _ (by kernel_rfl) (by kernel_rfl))) ?_
  intro W base args ds gs before hval0 hW _ hz hL _
  have hval : ∀ (j : Nat) t v, Tryd.f3.params[j]? = some t → args[j]? = some v → Value.okWide Tryd.prog W .any base t v := hval0
  have hS := signs_of_laid hL
  have hW' := hW
  have hlt : ∀ x ∈ before, x.block < W.heap.size := fun x hx => hW.lt x hx
  obtain ⟨p, q, hA0, hV, rfl, _, _⟩ := hW
  have hA : DataW.TrodAll enc Tryd.prog W 0 (fun _ => true) true Tryd.f3.params.toList args.toList ds p := hA0
  have hA' := hA
  rw [Tryd.params3] at hA hval
  obtain ⟨v0, v1, v2, d0, d1, d2, p0, p1, p2, ea, rfl, rfl, h0, h1, h2⟩ := trodAll_three hA
  have hw0 : ∀ n ∈ d0.weights Tryd.prog 25, n ≤ reachBytes := fun n hn => by
    have hp : Tryd.f3.params.toList = _ := congrArg Array.toList Tryd.params3
    have := List.all_eq_true.1 hz n (DataW.weights_mem_each (j := 0) (t := 25) (d := d0) (by rw [hp]; rfl) rfl n hn)
    simpa using this
  obtain ⟨rfl, rfl⟩ := trodVars_none hV
  subst ea
  obtain ⟨n, A1, c1, ps, A2, c2, ss, long, A3, c3, bs, A4, c4, st, miss, good, fresh, rfl, r1, r2, r3, r4, n1, n2, n3, n4⟩ := open_cfg (hval 0 25 v0 rfl rfl) h0
  obtain ⟨l1, l2, l3, l4⟩ := cfg_sizes n A1 c1 ps A2 c2 ss long A3 c3 bs A4 c4 st miss good fresh h0 hw0
  obtain ⟨cs, rfl, hv⟩ := open_view (hval 1 32 v1 rfl rfl) h1
  obtain ⟨B0, cb, xs, rfl, hr, hx⟩ := open_bytes (hval 2 33 v2 rfl rfl) h2
  refine (lawRun_any n A1 c1 ps A2 c2 ss long A3 c3 bs A4 c4 st miss good fresh cs hv B0 cb xs W ⟨hS, r1, r2, r3, r4, l1, l2, l3, l4, n1, n2, n3, n4⟩ hr hx).mono fun e W' ⟨he, hb⟩ => ?_
  subst he
  exact ⟨_, rfl, _, _, _, [], _, [], hW', trodAll_mk1 (shut_bool Tryd.underlying4 _), trodAll_below laidOut hb _ membersRun_rd hA' (fun x hx => hlt x (List.mem_append_left _ hx)), rfl, hb.frame _, fun h => by cases h⟩

theorem membersRun_said : Rows.MembersRunSaid :=
  OpenClaim.holds_of_wide 3 Tryd.f3 rfl rfl rfl rfl rfl rfl rfl ⟨rfl, rfl, rfl, rfl, rfl⟩ rfl rfl rfl rfl rfl (by kernel_rfl) Tryd.func3 (by kernel_rfl)
    (of_decide_eq_true (by kernel_rfl)) (by unfold Func.isWrapper; first | (rw [if_pos (by decide +kernel)]; kernel_rfl) | (rw [if_neg (by decide +kernel)]; exact ⟨rfl, rfl⟩))
    (fun os started H enc _ => membersRun_lifted os started H enc)
end Go.Proofs.YtbmbaalidehoeaaDoor.K
namespace Go.Proofs.YtbmbaalidehoeaaDoor
open Go
theorem membersRun_card : Rows.MembersRunCardSaid :=
  Claim7.holds_tied_plain_at .later [] [.data] true (true, "3dc791b465a095814881d71a5f2b5e91b1d791b5df79e8b234a5152a3f469b66") false K.membersRun_said (fun _ h => by cases h) (by kernel_rfl) (fun _ h => by cases h) membersRun_row_tie rfl ⟨rfl, rfl⟩ (by kernel_rfl) rfl
    (fun f fn hf hfn => by
      obtain rfl : f = 3 := Option.some.inj ((show Tryd.prog.funcNamed "sennit/sennitlaw22.MembersRun" = some 3 by kernel_rfl).symm.trans hf) |>.symm
      obtain rfl : fn = Tryd.f3 := (Option.some.inj (Tryd.func3.symm.trans hfn)).symm
      exact ⟨by kernel_rfl, fun j t ht => by
        rw [Tryd.params3] at ht
        have hm : t ∈ [25, 32, 33] := by simpa using Array.mem_of_getElem? ht
        have hall : ([25, 32, 33].all fun u => !Tryd.prog.wantsStandIn u) = true := by kernel_rfl
        exact (show Tryd.prog.wantsStandIn t = false by simpa using List.all_eq_true.1 hall t hm)⟩)
    (by kernel_rfl)
#print axioms membersRun_card
end Go.Proofs.YtbmbaalidehoeaaDoor
