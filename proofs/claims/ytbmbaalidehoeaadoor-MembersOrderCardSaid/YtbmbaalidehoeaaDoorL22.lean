/- sennitlaw22.lives answers true. -/
import Derived.Test.YtbmbaalidehoeaaDoorMem3
import Derived.Test.YtbmbaalidehoeaaDoorPlain
namespace Go.Proofs.YtbmbaalidehoeaaDoor.K
open Go.RowKit

def modeV : Array Value := #[.bool false, .bool false, .bool false, .bool false, .bool false, .bool false, .bool false, .bool false,
  .int .u8 0, .int .u8 0, .int .u8 0, .int .u8 0, .int .u8 0, .int .u8 0, .int .u8 0, .int .u8 0, .int .u8 0, .int .u8 0, .int .u8 0, .int .u8 0, .int .u8 0, .int .u8 0, .int .u8 0, .int .u8 0,
  .int .u16 0, .int .u16 0, .int .u16 0, .int .u16 0, .int .u16 0, .int .u16 0, .int .u16 0, .int .u16 0,
  .bool false, .bool false, .bool false, .bool false, .bool false, .bool false, .bool false, .bool false, .int .i8 0, .int .u8 5]
theorem modeV_eq : modeV = zeroV.setIfInBounds 41 (.int .u8 5) := rfl

set_option maxRecDepth 100000 in
set_option maxHeartbeats 8000000 in
theorem lives22_any (w : World) (hs : Signs w) : Calls Tryd.prog 9 #[] w fun e w' => e = .returned (.bool true) ∧ Below w.heap.size w w' := by
  have HS := Lib.hid hs
  clear hs
  obtain ⟨V, eV⟩ : ∃ V, firstV 2 = V := ⟨_, rfl⟩
  obtain ⟨A, eA⟩ : ∃ A, roundV 2 3 3 V = A := ⟨_, rfl⟩
  obtain ⟨A2, eA2⟩ : ∃ A2, roundV 2 3 3 A = A2 := ⟨_, rfl⟩
  obtain ⟨B, eB⟩ : ∃ B, roundV 2 3 3 A2 = B := ⟨_, rfl⟩
  obtain ⟨H, eH⟩ : ∃ H, heardV 2 V 0 = H := ⟨_, rfl⟩
  obtain ⟨C, eC⟩ : ∃ C, roundV 2 3 3 H = C := ⟨_, rfl⟩
  have VV := Lib.hid (show VwOk V by rw [← eV]; exact firstV_ok 2)
  have VA := Lib.hid (show VwOk A by rw [← eA]; exact roundV_ok (by omega) VV.out)
  have VA2 := Lib.hid (show VwOk A2 by rw [← eA2]; exact roundV_ok (by omega) VA.out)
  have VB := Lib.hid (show VwOk B by rw [← eB]; exact roundV_ok (by omega) VA2.out)
  have VH := Lib.hid (show VwOk H by rw [← eH]; exact heardV_ok (by omega) VV.out 0)
  have VC := Lib.hid (show VwOk C by rw [← eC]; exact roundV_ok (by omega) VH.out)
  have FV := Lib.hid (show V[0]? = some (.bool true) ∧ V[1]? = some (.bool true) ∧ V[2]? = some (.bool false) ∧ V[40]? = some (.int .i8 0) by subst eV; exact ⟨rfl, rfl, rfl, rfl⟩)
  have FA := Lib.hid (show A[9]? = some (.int .u8 1) ∧ A[24]? = some (.int .u16 8) ∧ A[0]? = some (.bool true) by subst eA eV; exact ⟨rfl, rfl, rfl⟩)
  have FB := Lib.hid (show B[0]? = some (.bool false) ∧ B[8]? = some (.int .u8 3) by subst eB eA2 eA eV; exact ⟨rfl, rfl⟩)
  have FC := Lib.hid (show C[8]? = some (.int .u8 0) ∧ C[16]? = some (.int .u8 1) ∧ C[24]? = some (.int .u16 0) ∧ C[9]? = some (.int .u8 1) ∧ C[32]? = some (.bool false) by subst eC eH eV; exact ⟨rfl, rfl, rfl, rfl, rfl⟩)
  have MB : Hid (mayB 2 B = true) := Lib.hid (by subst eB eA2 eA eV; rfl)
  have MZ : Hid (mayB 2 modeV = false) := Lib.hid rfl
  have ZZ := Lib.hid (show VwOk modeV from modeV_eq ▸ zeroV_ok.setM (n := 5) ⟨by omega, by omega⟩)
  have EV := Lib.hid eV
  have EA := Lib.hid eA
  have EA2 := Lib.hid eA2
  have EB := Lib.hid eB
  have EH := Lib.hid eH
  have EC := Lib.hid eC
  clear eV eA eA2 eB eH eC
  go_enter Tryd.func9, Tryd.ntmps9
  go_upto_region 2 with (first
    | (go_at_call 24; refine (plain_any0 _).mono ?_; rintro e wq ⟨A1, A2', A3, rfl, h1, h2, h3, hbq⟩; have H1 := Lib.hid h1; have H2 := Lib.hid h2; have H3 := Lib.hid h3; have HBQ := Lib.hid hbq; clear h1 h2 h3 hbq)
    | (go_at_call 7; refine (plain_new A1 A2' A3 _ (HS.out.below HBQ.out) H1.out H2.out H3.out).mono ?_; rintro e wn ⟨p, rfl, hna, hbn⟩; have HNA := Lib.hid hna; have HBN := Lib.hid (Below.then_ HBQ.out hbn); clear hna hbn))
  have HSN := Lib.hid (HS.out.below HBN.out)
  have HFM := Lib.hid fun (W : World) (hb : Below wn.heap.size wn W) => first_mem p plain0 W (HNA.out.below hb)
  simp only [show plain0.pairs.length = 2 from rfl, EV.out] at HFM
  have R_V := Lib.hid fun (W : World) (hb : Below wn.heap.size wn W) => round_mem p plain0 V VV.out W (HSN.out.below hb) (HNA.out.below hb)
  simp only [show plain0.pairs.length = 2 from rfl, show plain0.miss = 3 from rfl, show plain0.good = 3 from rfl, EA.out] at R_V
  have R_A := Lib.hid fun (W : World) (hb : Below wn.heap.size wn W) => round_mem p plain0 A VA.out W (HSN.out.below hb) (HNA.out.below hb)
  simp only [show plain0.pairs.length = 2 from rfl, show plain0.miss = 3 from rfl, show plain0.good = 3 from rfl, EA2.out] at R_A
  have R_A2 := Lib.hid fun (W : World) (hb : Below wn.heap.size wn W) => round_mem p plain0 A2 VA2.out W (HSN.out.below hb) (HNA.out.below hb)
  simp only [show plain0.pairs.length = 2 from rfl, show plain0.miss = 3 from rfl, show plain0.good = 3 from rfl, EB.out] at R_A2
  have R_H := Lib.hid fun (W : World) (hb : Below wn.heap.size wn W) => round_mem p plain0 H VH.out W (HSN.out.below hb) (HNA.out.below hb)
  simp only [show plain0.pairs.length = 2 from rfl, show plain0.miss = 3 from rfl, show plain0.good = 3 from rfl, EC.out] at R_H
  have HHR := Lib.hid fun (W : World) (hb : Below wn.heap.size wn W) => heard_any p plain0 V VV.out 0 W (HNA.out.below hb)
  simp only [show plain0.pairs.length = 2 from rfl, EH.out] at HHR
  have HMB := Lib.hid fun (W : World) (hb : Below wn.heap.size wn W) => may_any p plain0 B VB.out W (HNA.out.below hb)
  simp only [show plain0.pairs.length = 2 from rfl, MB.out] at HMB
  have HMZ := Lib.hid fun (W : World) (hb : Below wn.heap.size wn W) => may_any p plain0 _ ZZ.out W (HNA.out.below hb)
  simp only [show plain0.pairs.length = 2 from rfl, MZ.out] at HMZ
  simp only [modeV] at HMZ
  go_upto_region 3 with (first
    | (go_at_call 25; refine (HFM.out _ (Below.refl _ _)).mono ?_; rintro e w1 ⟨rfl, hb1⟩; have HB1 := Lib.hid hb1; clear hb1)
    | (refine wpList_store_at rfl 32 (.tmp 3) (.tmp 13) rfl _ 32 zeroV V (Blk.new_ _ _ _ rfl) rfl rfl VV.out.inf (by rw [VV.out.size]; rfl) VV.out.all ?_))
  refine gen_wp (fun U => Hid (Blk U w1.heap.size 32 V) ∧ Hid (Below wn.heap.size wn U)) ⟨Lib.hid ((Blk.new_ _ _ _ rfl).setRow V), Lib.hid (below_setRowW (Below.allocW HB1.out _) HB1.out.size _)⟩ ?_
  obtain ⟨gv, eg⟩ : ∃ g, w1.heap.size = g := ⟨_, rfl⟩
  rw [eg]
  rintro U2 ⟨KV, HB2⟩
  clear eg HB1
  go_upto_region 4 with (first
    | (refine wpList_load_at rfl 32 (.tmp 3) rfl gv 0 rfl V _ KV.out.range Tryd.underlying32 rfl VV.out.inf ?_)
    | (go_at_call 11; refine (R_V.out _ HB2.out).mono ?_; rintro e w1 ⟨rfl, hb1⟩; have HB1 := Lib.hid hb1; clear hb1)
    | (refine wpList_store_at rfl 32 (.tmp 4) (.tmp 16) rfl _ 32 zeroV A (Blk.new_ _ _ _ rfl) rfl rfl VA.out.inf (by rw [VA.out.size]; rfl) VA.out.all ?_))
  refine gen_wp (fun U => Hid (Blk U gv 32 V) ∧ Hid (Blk U w1.heap.size 32 A) ∧ Hid (Below wn.heap.size wn U)) ⟨Lib.hid (((KV.out.below HB1.out).alloc _).setRow_far (by have := (KV.out.below HB1.out).lt; omega) _), Lib.hid ((Blk.new_ _ _ _ rfl).setRow A), Lib.hid (below_setRow (Below.allocW (Below.then_ HB2.out HB1.out) _) (by have := HB2.out.size; have := HB1.out.size; omega) _)⟩ ?_
  obtain ⟨ga, eg⟩ : ∃ g, w1.heap.size = g := ⟨_, rfl⟩
  rw [eg]
  rintro U3 ⟨KV3, KA3, HB3⟩
  clear eg HB1 KV HB2
  go_upto_region 5 with (first
    | (refine wpList_load_at rfl 32 (.tmp 4) rfl ga 0 rfl A _ KA3.out.range Tryd.underlying32 rfl VA.out.inf ?_)
    | (go_at_call_of 11 (Value.agg A); refine (R_A.out _ HB3.out).mono ?_; rintro e w1 ⟨rfl, hb1⟩; have HB1 := Lib.hid hb1; clear hb1)
    | (go_at_call_of 11 (Value.agg A2); refine (R_A2.out _ (Below.then_ HB3.out HB1.out)).mono ?_; rintro e w2 ⟨rfl, hb2⟩; have HB2 := Lib.hid (Below.then_ HB1.out hb2); clear hb2)
    | (refine wpList_store_at rfl 32 (.tmp 5) (.tmp 21) rfl _ 32 zeroV B (Blk.new_ _ _ _ rfl) rfl rfl VB.out.inf (by rw [VB.out.size]; rfl) VB.out.all ?_))
  refine gen_wp (fun U => Hid (Blk U gv 32 V) ∧ Hid (Blk U ga 32 A) ∧ Hid (Blk U w2.heap.size 32 B) ∧ Hid (Below wn.heap.size wn U)) ⟨Lib.hid (((KV3.out.below HB2.out).alloc _).setRow_far (by have := (KV3.out.below HB2.out).lt; omega) _), Lib.hid (((KA3.out.below HB2.out).alloc _).setRow_far (by have := (KA3.out.below HB2.out).lt; omega) _), Lib.hid ((Blk.new_ _ _ _ rfl).setRow B), Lib.hid (below_setRow (Below.allocW (Below.then_ HB3.out HB2.out) _) (by have := HB3.out.size; have := HB2.out.size; omega) _)⟩ ?_
  obtain ⟨gb, eg⟩ : ∃ g, w2.heap.size = g := ⟨_, rfl⟩
  rw [eg]
  rintro U4 ⟨KV, KA, KB, HB4⟩
  clear eg HB1 HB2 KV3 KA3 HB3
  go_upto_region 6 with (first
    | (refine wpList_load_at rfl 32 (.tmp 3) rfl gv 0 rfl V _ KV.out.range Tryd.underlying32 rfl VV.out.inf ?_)
    | (go_at_call 10; refine (HHR.out _ HB4.out).mono ?_; rintro e w1 ⟨rfl, hb1⟩; have HB1 := Lib.hid hb1; clear hb1)
    | (go_at_call 11; refine (R_H.out _ (Below.then_ HB4.out HB1.out)).mono ?_; rintro e w2 ⟨rfl, hb2⟩; have HB2 := Lib.hid (Below.then_ HB1.out hb2); clear hb2)
    | (refine wpList_store_at rfl 32 (.tmp 6) (.tmp 26) rfl _ 32 zeroV C (Blk.new_ _ _ _ rfl) rfl rfl VC.out.inf (by rw [VC.out.size]; rfl) VC.out.all ?_))
  refine gen_wp (fun U => Hid (Blk U gv 32 V) ∧ Hid (Blk U ga 32 A) ∧ Hid (Blk U gb 32 B) ∧ Hid (Blk U w2.heap.size 32 C) ∧ Hid (Below wn.heap.size wn U))
    ⟨Lib.hid (((KV.out.below HB2.out).alloc _).setRow_far (by have := (KV.out.below HB2.out).lt; omega) _), Lib.hid (((KA.out.below HB2.out).alloc _).setRow_far (by have := (KA.out.below HB2.out).lt; omega) _), Lib.hid (((KB.out.below HB2.out).alloc _).setRow_far (by have := (KB.out.below HB2.out).lt; omega) _), Lib.hid ((Blk.new_ _ _ _ rfl).setRow C), Lib.hid (below_setRow (Below.allocW (Below.then_ HB4.out HB2.out) _) (by have := HB4.out.size; have := HB2.out.size; omega) _)⟩ ?_
  obtain ⟨gc, eg⟩ : ∃ g, w2.heap.size = g := ⟨_, rfl⟩
  rw [eg]
  rintro U5 ⟨KV5, KA5, KB5, KC5, HB5⟩
  clear eg HB1 HB2 KV KA KB HB4
  have cells : ∀ {cs : Array Value} {g i : Nat} {v : Value}, Blk U5 g 32 cs → cs[i]? = some v → U5.cell? ⟨g, i, none⟩ = some v := fun h e => (h.cell _).trans e
  have v0 := cells KV5.out FV.out.1
  have v1 := cells KV5.out FV.out.2.1
  have v2 := cells KV5.out FV.out.2.2.1
  have v3 := cells KV5.out FV.out.2.2.2
  have a0 := cells KA5.out FA.out.1
  have a1 := cells KA5.out FA.out.2.1
  have a2 := cells KA5.out FA.out.2.2
  have b0 := cells KB5.out FB.out.1
  have b1 := cells KB5.out FB.out.2
  have c0 := cells KC5.out FC.out.1
  have c1 := cells KC5.out FC.out.2.1
  have c2 := cells KC5.out FC.out.2.2.1
  have c3 := cells KC5.out FC.out.2.2.2.1
  have c4 := cells KC5.out FC.out.2.2.2.2
  clear cells
  go_wp2_with (first
    | (refine wpList_load_at rfl 32 (.tmp 5) rfl gb 0 rfl B _ KB5.out.range Tryd.underlying32 rfl VB.out.inf ?_)
    | (go_at_call_of 8 (Value.agg B); refine (HMB.out _ HB5.out).mono ?_; rintro e w3 ⟨rfl, hb3⟩; have HB3 := Lib.hid (Below.then_ HB5.out hb3); clear hb3)
    | (go_at_call 8; refine (HMZ.out _ HB3.out).mono ?_; rintro e w4 ⟨rfl, hb4⟩; have HB4 := Lib.hid (Below.then_ HB3.out hb4); clear hb4))
  go_ret
  exact ⟨rfl, Below.then_ HBN.out HB4.out⟩
end Go.Proofs.YtbmbaalidehoeaaDoor.K
