/- sennitlaw22.MembersOrder answers true. -/
import Derived.Test.YtbmbaalidehoeaaDoorLess
import Derived.Test.YtbmbaalidehoeaaDoorPick
import Derived.Test.YtbmbaalidehoeaaDoorQuiet
import Derived.Test.YtbmbaalidehoeaaDoorVeq
import Derived.Test.YtbmbaalidehoeaaDoorL22
namespace Go.Proofs.YtbmbaalidehoeaaDoor.K
open Go.RowKit

set_option maxRecDepth 100000 in
set_option maxHeartbeats 8000000 in
theorem lawOrder_ways (a b c : Array Value) (ha : VwOk a) (hb : VwOk b) (hc : VwOk c) (w : World) (hs : Signs w) (ab ba bc ac eq : Bool) (eab : lessB a b = ab) (eba : lessB b a = ba) (ebc : lessB b c = bc) (eac : lessB a c = ac) (eeq : eqA a b = eq)
    (h1 : (ab = false ∧ ba = false ∧ eq = true) ∨ (ab = true ∧ ba = false ∧ eq = false) ∨ (ab = false ∧ ba = true ∧ eq = false)) (h2 : ab = true → bc = true → ac = true) :
    Calls Tryd.prog 4 #[.agg a, .agg b, .agg c] w fun e w' => e = .returned (.bool true) ∧ Below w.heap.size w w' := by
  have HA := Lib.hid ha
  have HB := Lib.hid hb
  have HC := Lib.hid hc
  have HS := Lib.hid hs
  have LAA := Lib.hid fun (W : World) => vless_any a a ha ha W
  have LAB := Lib.hid fun (W : World) => vless_any a b ha hb W
  have LBA := Lib.hid fun (W : World) => vless_any b a hb ha W
  have LBC := Lib.hid fun (W : World) => vless_any b c hb hc W
  have LAC := Lib.hid fun (W : World) => vless_any a c ha hc W
  have NE := Lib.hid fun (W : World) => view_neq ha hb W
  rw [lessB_order.irr] at LAA
  rw [eab] at LAB
  rw [eba] at LBA
  rw [ebc] at LBC
  rw [eac] at LAC
  rw [eeq] at NE
  clear ha hb hc hs eab eba ebc eac eeq
  go_enter Tryd.func4, Tryd.ntmps4
  go_upto_region 1 with fail
  refine gen_wp (fun U => Hid (Blk U w.heap.size 32 a) ∧ Hid (Blk U (w.heap.size + 1) 32 b) ∧ Hid (Blk U (w.heap.size + 1 + 1) 32 c) ∧ Hid (Below w.heap.size w U)) ⟨?_, ?_, ?_, ?_⟩ ?_
  · exact Lib.hid (((Blk.new_ w _ _ rfl).alloc _).alloc _)
  · exact Lib.hid ((Blk.new_ _ _ _ (by simp)).alloc _)
  · exact Lib.hid (Blk.new_ _ _ _ (by simp))
  · refine Lib.hid (((Below.refl _ _).alloc ?_ _ |>.alloc ?_ _).alloc ?_ _) <;> simp <;> omega
  rintro U ⟨KA, KB, KC, HBU⟩
  have R1 := Lib.hid fun (W : World) (h : Below U.heap.size U W) => LAA.out W
  have GE : Tryd.prog.eqGuardType Tryd.prog.depth 32 = false := by kernel_rfl
  have LV := Lib.hid fun (W : World) (h : Below w.heap.size w W) => lives22_any W (HS.out.below h)
  rcases h1 with ⟨rfl, rfl, rfl⟩ | ⟨rfl, rfl, rfl⟩ | ⟨rfl, rfl, rfl⟩
  · refine wp_region_grow (by kernel_rfl) (by kernel_rfl) ?_
    refine wpQuiet_load_at rfl 32 (.tmp 3) rfl w.heap.size 0 rfl a _ (fun _ ⟨x, e⟩ => e ▸ (Grow.blk x KA.out).range) Tryd.underlying32 rfl HA.out.inf ?_; simp only [Act.put, List.setIfInBounds_toArray, List.set_cons_succ, List.set_cons_zero]
    refine wpQuiet_load_at rfl 32 (.tmp 3) rfl w.heap.size 0 rfl a _ (fun _ ⟨x, e⟩ => e ▸ (Grow.blk x KA.out).range) Tryd.underlying32 rfl HA.out.inf ?_; simp only [Act.put, List.setIfInBounds_toArray, List.set_cons_succ, List.set_cons_zero]
    go_big_quiet_step ((go_at_call 12; exact Grow.call _ (LAA.out _)))
    go_big_quiet_step (fail)
    refine wpQuiet_load_at rfl 32 (.tmp 3) rfl w.heap.size 0 rfl a _ (fun _ ⟨x, e⟩ => e ▸ (Grow.blk x KA.out).range) Tryd.underlying32 rfl HA.out.inf ?_; simp only [Act.put, List.setIfInBounds_toArray, List.set_cons_succ, List.set_cons_zero]
    refine wpQuiet_load_at rfl 32 (.tmp 4) rfl (w.heap.size + 1) 0 rfl b _ (fun _ ⟨x, e⟩ => e ▸ (Grow.blk x KB.out).range) Tryd.underlying32 rfl HB.out.inf ?_; simp only [Act.put, List.setIfInBounds_toArray, List.set_cons_succ, List.set_cons_zero]
    go_big_quiet_step ((go_at_call 12; exact Grow.call _ (LAB.out _)))
    go_big_quiet_step (fail)
    refine wpQuiet_load_at rfl 32 (.tmp 4) rfl (w.heap.size + 1) 0 rfl b _ (fun _ ⟨x, e⟩ => e ▸ (Grow.blk x KB.out).range) Tryd.underlying32 rfl HB.out.inf ?_; simp only [Act.put, List.setIfInBounds_toArray, List.set_cons_succ, List.set_cons_zero]
    refine wpQuiet_load_at rfl 32 (.tmp 3) rfl w.heap.size 0 rfl a _ (fun _ ⟨x, e⟩ => e ▸ (Grow.blk x KA.out).range) Tryd.underlying32 rfl HA.out.inf ?_; simp only [Act.put, List.setIfInBounds_toArray, List.set_cons_succ, List.set_cons_zero]
    go_big_quiet_step ((go_at_call 12; exact Grow.call _ (LBA.out _)))
    go_big_quiet_step (fail)
    refine wpQuiet_load_at rfl 32 (.tmp 3) rfl w.heap.size 0 rfl a _ (fun _ ⟨x, e⟩ => e ▸ (Grow.blk x KA.out).range) Tryd.underlying32 rfl HA.out.inf ?_; simp only [Act.put, List.setIfInBounds_toArray, List.set_cons_succ, List.set_cons_zero]
    refine wpQuiet_load_at rfl 32 (.tmp 4) rfl (w.heap.size + 1) 0 rfl b _ (fun _ ⟨x, e⟩ => e ▸ (Grow.blk x KB.out).range) Tryd.underlying32 rfl HB.out.inf ?_; simp only [Act.put, List.setIfInBounds_toArray, List.set_cons_succ, List.set_cons_zero]
    refine wpQuiet_bin rfl .neq 32 32 (.tmp 19) (.tmp 20) rfl _ a b rfl rfl GE NE.out ?_; simp only [Act.put, List.setIfInBounds_toArray, List.set_cons_succ, List.set_cons_zero]
    go_big_quiet_step (fail)
    go_big_quiet_step (fail)
    go_big_quiet_step (fail)
    refine wpQuiet_load_at rfl 32 (.tmp 3) rfl w.heap.size 0 rfl a _ (fun _ ⟨x, e⟩ => e ▸ (Grow.blk x KA.out).range) Tryd.underlying32 rfl HA.out.inf ?_; simp only [Act.put, List.setIfInBounds_toArray, List.set_cons_succ, List.set_cons_zero]
    refine wpQuiet_load_at rfl 32 (.tmp 4) rfl (w.heap.size + 1) 0 rfl b _ (fun _ ⟨x, e⟩ => e ▸ (Grow.blk x KB.out).range) Tryd.underlying32 rfl HB.out.inf ?_; simp only [Act.put, List.setIfInBounds_toArray, List.set_cons_succ, List.set_cons_zero]
    go_big_quiet_step ((go_at_call 12; exact Grow.call _ (LAB.out _)))
    go_big_quiet_step (fail)
    go_big_quiet_step (fail)
    go_big_quiet_step (fail)
    go_big_quiet_step (fail)
    go_big_quiet_step (fail)
    go_big_quiet_step (fail)
    refine wpQuiet_nil ?_
    rintro w3 hx3
    have hb3 := grow_of hx3
    have HBX := Lib.hid (Below.then_ HBU.out hb3)
    have KA := Lib.hid (Blk.below KA.out hb3)
    have KB := Lib.hid (Blk.below KB.out hb3)
    have KC := Lib.hid (Blk.below KC.out hb3)
    clear hx3 hb3 HBU
    go_wp2_with (first
      | go_skip
      | (refine wpList_load_at rfl 32 (.tmp 3) rfl w.heap.size 0 rfl a _ KA.out.range Tryd.underlying32 rfl HA.out.inf ?_)
      | (refine wpList_load_at rfl 32 (.tmp 4) rfl (w.heap.size + 1) 0 rfl b _ KB.out.range Tryd.underlying32 rfl HB.out.inf ?_)
      | (refine wpList_load_at rfl 32 (.tmp 5) rfl (w.heap.size + 1 + 1) 0 rfl c _ KC.out.range Tryd.underlying32 rfl HC.out.inf ?_)
      | (go_at_call 12; refine (LAB.out _).mono ?_; rintro e w4 ⟨rfl, hb4⟩; have KA := Lib.hid (Blk.below KA.out hb4); have KB := Lib.hid (Blk.below KB.out hb4); have KC := Lib.hid (Blk.below KC.out hb4); have HBX := Lib.hid (Below.then_ HBX.out hb4); clear hb4 LAB)
      | (go_at_call 12; refine (LBC.out _).mono ?_; rintro e w4 ⟨rfl, hb4⟩; have KA := Lib.hid (Blk.below KA.out hb4); have KB := Lib.hid (Blk.below KB.out hb4); have KC := Lib.hid (Blk.below KC.out hb4); have HBX := Lib.hid (Below.then_ HBX.out hb4); clear hb4 LBC)
      | (go_at_call 12; refine (LAC.out _).mono ?_; rintro e w4 ⟨rfl, hb4⟩; have KA := Lib.hid (Blk.below KA.out hb4); have KB := Lib.hid (Blk.below KB.out hb4); have KC := Lib.hid (Blk.below KC.out hb4); have HBX := Lib.hid (Below.then_ HBX.out hb4); clear hb4 LAC)
      | (go_at_call 9; refine (LV.out _ HBX.out).mono ?_; rintro e w5 ⟨rfl, hb5⟩; have HBX := Lib.hid (Below.then_ HBX.out hb5); clear hb5))
    go_ret
    exact ⟨rfl, HBX.out⟩
  · refine wp_region_grow (by kernel_rfl) (by kernel_rfl) ?_
    refine wpQuiet_load_at rfl 32 (.tmp 3) rfl w.heap.size 0 rfl a _ (fun _ ⟨x, e⟩ => e ▸ (Grow.blk x KA.out).range) Tryd.underlying32 rfl HA.out.inf ?_; simp only [Act.put, List.setIfInBounds_toArray, List.set_cons_succ, List.set_cons_zero]
    refine wpQuiet_load_at rfl 32 (.tmp 3) rfl w.heap.size 0 rfl a _ (fun _ ⟨x, e⟩ => e ▸ (Grow.blk x KA.out).range) Tryd.underlying32 rfl HA.out.inf ?_; simp only [Act.put, List.setIfInBounds_toArray, List.set_cons_succ, List.set_cons_zero]
    go_big_quiet_step ((go_at_call 12; exact Grow.call _ (LAA.out _)))
    go_big_quiet_step (fail)
    refine wpQuiet_load_at rfl 32 (.tmp 3) rfl w.heap.size 0 rfl a _ (fun _ ⟨x, e⟩ => e ▸ (Grow.blk x KA.out).range) Tryd.underlying32 rfl HA.out.inf ?_; simp only [Act.put, List.setIfInBounds_toArray, List.set_cons_succ, List.set_cons_zero]
    refine wpQuiet_load_at rfl 32 (.tmp 4) rfl (w.heap.size + 1) 0 rfl b _ (fun _ ⟨x, e⟩ => e ▸ (Grow.blk x KB.out).range) Tryd.underlying32 rfl HB.out.inf ?_; simp only [Act.put, List.setIfInBounds_toArray, List.set_cons_succ, List.set_cons_zero]
    go_big_quiet_step ((go_at_call 12; exact Grow.call _ (LAB.out _)))
    go_big_quiet_step (fail)
    go_big_quiet_step (fail)
    go_big_quiet_step (fail)
    go_big_quiet_step (fail)
    go_big_quiet_step (fail)
    refine wpQuiet_load_at rfl 32 (.tmp 3) rfl w.heap.size 0 rfl a _ (fun _ ⟨x, e⟩ => e ▸ (Grow.blk x KA.out).range) Tryd.underlying32 rfl HA.out.inf ?_; simp only [Act.put, List.setIfInBounds_toArray, List.set_cons_succ, List.set_cons_zero]
    refine wpQuiet_load_at rfl 32 (.tmp 4) rfl (w.heap.size + 1) 0 rfl b _ (fun _ ⟨x, e⟩ => e ▸ (Grow.blk x KB.out).range) Tryd.underlying32 rfl HB.out.inf ?_; simp only [Act.put, List.setIfInBounds_toArray, List.set_cons_succ, List.set_cons_zero]
    refine wpQuiet_bin rfl .neq 32 32 (.tmp 19) (.tmp 20) rfl _ a b rfl rfl GE NE.out ?_; simp only [Act.put, List.setIfInBounds_toArray, List.set_cons_succ, List.set_cons_zero]
    go_big_quiet_step (fail)
    go_big_quiet_step (fail)
    go_big_quiet_step (fail)
    refine wpQuiet_load_at rfl 32 (.tmp 3) rfl w.heap.size 0 rfl a _ (fun _ ⟨x, e⟩ => e ▸ (Grow.blk x KA.out).range) Tryd.underlying32 rfl HA.out.inf ?_; simp only [Act.put, List.setIfInBounds_toArray, List.set_cons_succ, List.set_cons_zero]
    refine wpQuiet_load_at rfl 32 (.tmp 4) rfl (w.heap.size + 1) 0 rfl b _ (fun _ ⟨x, e⟩ => e ▸ (Grow.blk x KB.out).range) Tryd.underlying32 rfl HB.out.inf ?_; simp only [Act.put, List.setIfInBounds_toArray, List.set_cons_succ, List.set_cons_zero]
    go_big_quiet_step ((go_at_call 12; exact Grow.call _ (LAB.out _)))
    go_big_quiet_step (fail)
    refine wpQuiet_load_at rfl 32 (.tmp 4) rfl (w.heap.size + 1) 0 rfl b _ (fun _ ⟨x, e⟩ => e ▸ (Grow.blk x KB.out).range) Tryd.underlying32 rfl HB.out.inf ?_; simp only [Act.put, List.setIfInBounds_toArray, List.set_cons_succ, List.set_cons_zero]
    refine wpQuiet_load_at rfl 32 (.tmp 3) rfl w.heap.size 0 rfl a _ (fun _ ⟨x, e⟩ => e ▸ (Grow.blk x KA.out).range) Tryd.underlying32 rfl HA.out.inf ?_; simp only [Act.put, List.setIfInBounds_toArray, List.set_cons_succ, List.set_cons_zero]
    go_big_quiet_step ((go_at_call 12; exact Grow.call _ (LBA.out _)))
    go_big_quiet_step (fail)
    go_big_quiet_step (fail)
    refine wpQuiet_nil ?_
    rintro w3 hx3
    have hb3 := grow_of hx3
    have HBX := Lib.hid (Below.then_ HBU.out hb3)
    have KA := Lib.hid (Blk.below KA.out hb3)
    have KB := Lib.hid (Blk.below KB.out hb3)
    have KC := Lib.hid (Blk.below KC.out hb3)
    clear hx3 hb3 HBU
    cases bc
    · go_wp2_with (first
        | go_skip
        | (refine wpList_load_at rfl 32 (.tmp 3) rfl w.heap.size 0 rfl a _ KA.out.range Tryd.underlying32 rfl HA.out.inf ?_)
        | (refine wpList_load_at rfl 32 (.tmp 4) rfl (w.heap.size + 1) 0 rfl b _ KB.out.range Tryd.underlying32 rfl HB.out.inf ?_)
        | (refine wpList_load_at rfl 32 (.tmp 5) rfl (w.heap.size + 1 + 1) 0 rfl c _ KC.out.range Tryd.underlying32 rfl HC.out.inf ?_)
        | (go_at_call 12; refine (LAB.out _).mono ?_; rintro e w4 ⟨rfl, hb4⟩; have KA := Lib.hid (Blk.below KA.out hb4); have KB := Lib.hid (Blk.below KB.out hb4); have KC := Lib.hid (Blk.below KC.out hb4); have HBX := Lib.hid (Below.then_ HBX.out hb4); clear hb4 LAB)
        | (go_at_call 12; refine (LBC.out _).mono ?_; rintro e w4 ⟨rfl, hb4⟩; have KA := Lib.hid (Blk.below KA.out hb4); have KB := Lib.hid (Blk.below KB.out hb4); have KC := Lib.hid (Blk.below KC.out hb4); have HBX := Lib.hid (Below.then_ HBX.out hb4); clear hb4 LBC)
        | (go_at_call 12; refine (LAC.out _).mono ?_; rintro e w4 ⟨rfl, hb4⟩; have KA := Lib.hid (Blk.below KA.out hb4); have KB := Lib.hid (Blk.below KB.out hb4); have KC := Lib.hid (Blk.below KC.out hb4); have HBX := Lib.hid (Below.then_ HBX.out hb4); clear hb4 LAC)
        | (go_at_call 9; refine (LV.out _ HBX.out).mono ?_; rintro e w5 ⟨rfl, hb5⟩; have HBX := Lib.hid (Below.then_ HBX.out hb5); clear hb5))
      go_ret
      exact ⟨rfl, HBX.out⟩
    · have hac : ac = true := h2 rfl rfl
      subst hac
      go_wp2_with (first
        | go_skip
        | (refine wpList_load_at rfl 32 (.tmp 3) rfl w.heap.size 0 rfl a _ KA.out.range Tryd.underlying32 rfl HA.out.inf ?_)
        | (refine wpList_load_at rfl 32 (.tmp 4) rfl (w.heap.size + 1) 0 rfl b _ KB.out.range Tryd.underlying32 rfl HB.out.inf ?_)
        | (refine wpList_load_at rfl 32 (.tmp 5) rfl (w.heap.size + 1 + 1) 0 rfl c _ KC.out.range Tryd.underlying32 rfl HC.out.inf ?_)
        | (go_at_call 12; refine (LAB.out _).mono ?_; rintro e w4 ⟨rfl, hb4⟩; have KA := Lib.hid (Blk.below KA.out hb4); have KB := Lib.hid (Blk.below KB.out hb4); have KC := Lib.hid (Blk.below KC.out hb4); have HBX := Lib.hid (Below.then_ HBX.out hb4); clear hb4 LAB)
        | (go_at_call 12; refine (LBC.out _).mono ?_; rintro e w4 ⟨rfl, hb4⟩; have KA := Lib.hid (Blk.below KA.out hb4); have KB := Lib.hid (Blk.below KB.out hb4); have KC := Lib.hid (Blk.below KC.out hb4); have HBX := Lib.hid (Below.then_ HBX.out hb4); clear hb4 LBC)
        | (go_at_call 12; refine (LAC.out _).mono ?_; rintro e w4 ⟨rfl, hb4⟩; have KA := Lib.hid (Blk.below KA.out hb4); have KB := Lib.hid (Blk.below KB.out hb4); have KC := Lib.hid (Blk.below KC.out hb4); have HBX := Lib.hid (Below.then_ HBX.out hb4); clear hb4 LAC)
        | (go_at_call 9; refine (LV.out _ HBX.out).mono ?_; rintro e w5 ⟨rfl, hb5⟩; have HBX := Lib.hid (Below.then_ HBX.out hb5); clear hb5))
      go_ret
      exact ⟨rfl, HBX.out⟩
  · refine wp_region_grow (by kernel_rfl) (by kernel_rfl) ?_
    refine wpQuiet_load_at rfl 32 (.tmp 3) rfl w.heap.size 0 rfl a _ (fun _ ⟨x, e⟩ => e ▸ (Grow.blk x KA.out).range) Tryd.underlying32 rfl HA.out.inf ?_; simp only [Act.put, List.setIfInBounds_toArray, List.set_cons_succ, List.set_cons_zero]
    refine wpQuiet_load_at rfl 32 (.tmp 3) rfl w.heap.size 0 rfl a _ (fun _ ⟨x, e⟩ => e ▸ (Grow.blk x KA.out).range) Tryd.underlying32 rfl HA.out.inf ?_; simp only [Act.put, List.setIfInBounds_toArray, List.set_cons_succ, List.set_cons_zero]
    go_big_quiet_step ((go_at_call 12; exact Grow.call _ (LAA.out _)))
    go_big_quiet_step (fail)
    refine wpQuiet_load_at rfl 32 (.tmp 3) rfl w.heap.size 0 rfl a _ (fun _ ⟨x, e⟩ => e ▸ (Grow.blk x KA.out).range) Tryd.underlying32 rfl HA.out.inf ?_; simp only [Act.put, List.setIfInBounds_toArray, List.set_cons_succ, List.set_cons_zero]
    refine wpQuiet_load_at rfl 32 (.tmp 4) rfl (w.heap.size + 1) 0 rfl b _ (fun _ ⟨x, e⟩ => e ▸ (Grow.blk x KB.out).range) Tryd.underlying32 rfl HB.out.inf ?_; simp only [Act.put, List.setIfInBounds_toArray, List.set_cons_succ, List.set_cons_zero]
    go_big_quiet_step ((go_at_call 12; exact Grow.call _ (LAB.out _)))
    go_big_quiet_step (fail)
    refine wpQuiet_load_at rfl 32 (.tmp 4) rfl (w.heap.size + 1) 0 rfl b _ (fun _ ⟨x, e⟩ => e ▸ (Grow.blk x KB.out).range) Tryd.underlying32 rfl HB.out.inf ?_; simp only [Act.put, List.setIfInBounds_toArray, List.set_cons_succ, List.set_cons_zero]
    refine wpQuiet_load_at rfl 32 (.tmp 3) rfl w.heap.size 0 rfl a _ (fun _ ⟨x, e⟩ => e ▸ (Grow.blk x KA.out).range) Tryd.underlying32 rfl HA.out.inf ?_; simp only [Act.put, List.setIfInBounds_toArray, List.set_cons_succ, List.set_cons_zero]
    go_big_quiet_step ((go_at_call 12; exact Grow.call _ (LBA.out _)))
    go_big_quiet_step (fail)
    refine wpQuiet_load_at rfl 32 (.tmp 3) rfl w.heap.size 0 rfl a _ (fun _ ⟨x, e⟩ => e ▸ (Grow.blk x KA.out).range) Tryd.underlying32 rfl HA.out.inf ?_; simp only [Act.put, List.setIfInBounds_toArray, List.set_cons_succ, List.set_cons_zero]
    refine wpQuiet_load_at rfl 32 (.tmp 4) rfl (w.heap.size + 1) 0 rfl b _ (fun _ ⟨x, e⟩ => e ▸ (Grow.blk x KB.out).range) Tryd.underlying32 rfl HB.out.inf ?_; simp only [Act.put, List.setIfInBounds_toArray, List.set_cons_succ, List.set_cons_zero]
    refine wpQuiet_bin rfl .neq 32 32 (.tmp 19) (.tmp 20) rfl _ a b rfl rfl GE NE.out ?_; simp only [Act.put, List.setIfInBounds_toArray, List.set_cons_succ, List.set_cons_zero]
    go_big_quiet_step (fail)
    go_big_quiet_step (fail)
    go_big_quiet_step (fail)
    refine wpQuiet_load_at rfl 32 (.tmp 3) rfl w.heap.size 0 rfl a _ (fun _ ⟨x, e⟩ => e ▸ (Grow.blk x KA.out).range) Tryd.underlying32 rfl HA.out.inf ?_; simp only [Act.put, List.setIfInBounds_toArray, List.set_cons_succ, List.set_cons_zero]
    refine wpQuiet_load_at rfl 32 (.tmp 4) rfl (w.heap.size + 1) 0 rfl b _ (fun _ ⟨x, e⟩ => e ▸ (Grow.blk x KB.out).range) Tryd.underlying32 rfl HB.out.inf ?_; simp only [Act.put, List.setIfInBounds_toArray, List.set_cons_succ, List.set_cons_zero]
    go_big_quiet_step ((go_at_call 12; exact Grow.call _ (LAB.out _)))
    go_big_quiet_step (fail)
    go_big_quiet_step (fail)
    go_big_quiet_step (fail)
    go_big_quiet_step (fail)
    go_big_quiet_step (fail)
    go_big_quiet_step (fail)
    refine wpQuiet_nil ?_
    rintro w3 hx3
    have hb3 := grow_of hx3
    have HBX := Lib.hid (Below.then_ HBU.out hb3)
    have KA := Lib.hid (Blk.below KA.out hb3)
    have KB := Lib.hid (Blk.below KB.out hb3)
    have KC := Lib.hid (Blk.below KC.out hb3)
    clear hx3 hb3 HBU
    go_wp2_with (first
      | go_skip
      | (refine wpList_load_at rfl 32 (.tmp 3) rfl w.heap.size 0 rfl a _ KA.out.range Tryd.underlying32 rfl HA.out.inf ?_)
      | (refine wpList_load_at rfl 32 (.tmp 4) rfl (w.heap.size + 1) 0 rfl b _ KB.out.range Tryd.underlying32 rfl HB.out.inf ?_)
      | (refine wpList_load_at rfl 32 (.tmp 5) rfl (w.heap.size + 1 + 1) 0 rfl c _ KC.out.range Tryd.underlying32 rfl HC.out.inf ?_)
      | (go_at_call 12; refine (LAB.out _).mono ?_; rintro e w4 ⟨rfl, hb4⟩; have KA := Lib.hid (Blk.below KA.out hb4); have KB := Lib.hid (Blk.below KB.out hb4); have KC := Lib.hid (Blk.below KC.out hb4); have HBX := Lib.hid (Below.then_ HBX.out hb4); clear hb4 LAB)
      | (go_at_call 12; refine (LBC.out _).mono ?_; rintro e w4 ⟨rfl, hb4⟩; have KA := Lib.hid (Blk.below KA.out hb4); have KB := Lib.hid (Blk.below KB.out hb4); have KC := Lib.hid (Blk.below KC.out hb4); have HBX := Lib.hid (Below.then_ HBX.out hb4); clear hb4 LBC)
      | (go_at_call 12; refine (LAC.out _).mono ?_; rintro e w4 ⟨rfl, hb4⟩; have KA := Lib.hid (Blk.below KA.out hb4); have KB := Lib.hid (Blk.below KB.out hb4); have KC := Lib.hid (Blk.below KC.out hb4); have HBX := Lib.hid (Below.then_ HBX.out hb4); clear hb4 LAC)
      | (go_at_call 9; refine (LV.out _ HBX.out).mono ?_; rintro e w5 ⟨rfl, hb5⟩; have HBX := Lib.hid (Below.then_ HBX.out hb5); clear hb5))
    go_ret
    exact ⟨rfl, HBX.out⟩
end Go.Proofs.YtbmbaalidehoeaaDoor.K
