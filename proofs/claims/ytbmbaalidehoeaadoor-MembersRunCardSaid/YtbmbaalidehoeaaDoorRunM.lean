/- sennitlaw22.MembersRun answers true. -/
import Derived.Test.YtbmbaalidehoeaaDoorL22
import Derived.Test.YtbmbaalidehoeaaDoorRunV
import Derived.Test.YtbmbaalidehoeaaDoorBut
namespace Go.Proofs.YtbmbaalidehoeaaDoor.K
open Go.RowKit

set_option maxRecDepth 100000 in
set_option maxHeartbeats 8000000 in
theorem lawRun_bad (n : Int) (A1 : Option Addr) (c1 : Nat) (ps : List Int) (A2 : Option Addr) (c2 : Nat) (ss : List Int) (long : Int) (A3 : Option Addr) (c3 : Nat) (bs : List Int) (A4 : Option Addr) (c4 : Nat) (st : List Stn) (miss good fresh : Int) (cs : Array Value) (A : Option Addr) (L c : Nat) (w : World) (hc : CfgIn w A1 ps A2 ss A3 bs A4 st) (hb : newE ⟨n, ps, ss, long, bs, st, miss, good, fresh⟩ ≠ 0) :
    Calls Tryd.prog 3 #[(.agg #[.int .i64 n, .slice A1 ps.length c1, .slice A2 ss.length c2, .int .i64 long, .slice A3 bs.length c3, .slice A4 st.length c4, .int .i64 miss, .int .i64 good, .int .i64 fresh]), .agg cs, .slice A L c] w fun e w' => e = .returned (.bool true) ∧ Below w.heap.size w w' := by
  have HS := Lib.hid hc.signs
  have HN := Lib.hid fun (W : World) (h : Below w.heap.size w W) => new_bad n A1 c1 ps A2 c2 ss long A3 c3 bs A4 c4 st miss good fresh W (hc.below h) hb
  have hz : (newE ⟨n, ps, ss, long, bs, st, miss, good, fresh⟩ == 0) = false := by simpa using hb
  obtain ⟨E, eE⟩ : ∃ E, newE ⟨n, ps, ss, long, bs, st, miss, good, fresh⟩ = E := ⟨_, rfl⟩
  rw [eE] at HN hz
  have hz2 : (E != 0) = true := by simpa using hz
  clear eE hb hc
  go_enter Tryd.func3, Tryd.ntmps3
  go_upto_region 1 with fail
  refine gen_wp (fun U => Hid (Blk U w.heap.size 25 #[.int .i64 n, .slice A1 ps.length c1, .slice A2 ss.length c2, .int .i64 long, .slice A3 bs.length c3, .slice A4 st.length c4, .int .i64 miss, .int .i64 good, .int .i64 fresh]) ∧ Hid (Below w.heap.size w U)) ⟨Lib.hid ((Blk.new_ w _ _ rfl).alloc _), Lib.hid (Below.allocW (ba _ _) _)⟩ ?_
  rintro U ⟨KC, HB⟩
  obtain ⟨z0, z1, z2, z3, z4, z5, z6, z7, z8⟩ := box9 KC.out
  go_wp2_with (first
    | (go_at_call 7; refine (HN.out _ HB.out).mono ?_; rintro e w1 ⟨rfl, hb1⟩; have HB1 := Lib.hid (Below.then_ HB.out hb1); clear hb1)
    | (go_at_call 9; refine (lives22_any _ (HS.out.below HB1.out)).mono ?_; rintro e w2 ⟨rfl, hb2⟩; have HB2 := Lib.hid (Below.then_ HB1.out hb2); clear hb2))
  go_ret
  exact ⟨rfl, HB2.out⟩

set_option maxRecDepth 100000 in
set_option maxHeartbeats 8000000 in
theorem lawRun_out (n : Int) (A1 : Option Addr) (c1 : Nat) (ps : List Int) (A2 : Option Addr) (c2 : Nat) (ss : List Int) (long : Int) (A3 : Option Addr) (c3 : Nat) (bs : List Int) (A4 : Option Addr) (c4 : Nat) (st : List Stn) (miss good fresh : Int) (cs : Array Value) (hv : VwOk cs) (A : Option Addr) (L c : Nat) (w : World) (hc : CfgIn w A1 ps A2 ss A3 bs A4 st) (hb : newE ⟨n, ps, ss, long, bs, st, miss, good, fresh⟩ = 0) (ho : 200 < L ∨ (L ≤ 200 ∧ mayB ps.length cs = false)) :
    Calls Tryd.prog 3 #[(.agg #[.int .i64 n, .slice A1 ps.length c1, .slice A2 ss.length c2, .int .i64 long, .slice A3 bs.length c3, .slice A4 st.length c4, .int .i64 miss, .int .i64 good, .int .i64 fresh]), .agg cs, .slice A L c] w fun e w' => e = .returned (.bool true) ∧ Below w.heap.size w w' := by
  have HS := Lib.hid hc.signs
  have HN := Lib.hid fun (W : World) (h : Below w.heap.size w W) => new_ok n A1 c1 ps A2 c2 ss long A3 c3 bs A4 c4 st miss good fresh W (hc.below h) hb
  have HV := Lib.hid hv
  clear hc hb hv
  go_enter Tryd.func3, Tryd.ntmps3
  go_upto_region 1 with fail
  refine gen_wp (fun U => Hid (Blk U w.heap.size 25 #[.int .i64 n, .slice A1 ps.length c1, .slice A2 ss.length c2, .int .i64 long, .slice A3 bs.length c3, .slice A4 st.length c4, .int .i64 miss, .int .i64 good, .int .i64 fresh]) ∧ Hid (Blk U (w.heap.size + 1) 32 cs) ∧ Hid (Below w.heap.size w U)) ⟨Lib.hid ((Blk.new_ w _ _ rfl).alloc _), Lib.hid (Blk.new_ _ _ _ (by simp)), Lib.hid (Below.allocW (ba _ _) _)⟩ ?_
  rintro U ⟨KC, KV, HB⟩
  obtain ⟨z0, z1, z2, z3, z4, z5, z6, z7, z8⟩ := box9 KC.out
  go_upto_region 2 with (go_at_call 7; refine (HN.out _ HB.out).mono ?_; rintro e w1 ⟨p, rfl, hna, -, hb1⟩; have HB1 := Lib.hid (Below.then_ HB.out hb1); have HNA := Lib.hid hna; have KV1 := Lib.hid (KV.out.below hb1); clear hb1 hna)
  rcases ho with ho | ⟨ho, hm⟩
  · go_wp2_with (go_at_call 9; refine (lives22_any _ (HS.out.below HB1.out)).mono ?_; rintro e w2 ⟨rfl, hb2⟩; have HB2 := Lib.hid (Below.then_ HB1.out hb2); clear hb2)
    go_ret
    exact ⟨rfl, HB2.out⟩
  · have HMA := Lib.hid (may_any p _ cs HV.out w1 HNA.out)
    dsimp only at HMA
    rw [hm] at HMA
    have hl1 : decide ((200 : Int) < (L : Int)) = false := by simp; omega
    clear hm
    go_wp2_with (first
      | (refine wpList_load_at rfl 32 (.tmp 4) rfl (w.heap.size + 1) 0 rfl cs _ KV1.out.range Tryd.underlying32 rfl HV.out.inf ?_)
      | (go_at_call 8; refine (HMA.out).mono ?_; rintro e w2 ⟨rfl, hb2⟩; have HB2 := Lib.hid (Below.then_ HB1.out hb2); clear hb2)
      | (go_at_call 9; refine (lives22_any _ (HS.out.below HB2.out)).mono ?_; rintro e w3 ⟨rfl, hb3⟩; have HB3 := Lib.hid (Below.then_ HB2.out hb3); clear hb3))
    go_ret
    exact ⟨rfl, HB3.out⟩

/-- The counts of a config that may be. -/
theorem counts_of {c : Cfg} (h : newE c = 0) : (1 ≤ c.miss ∧ c.miss ≤ 100) ∧ (1 ≤ c.good ∧ c.good ≤ 100) ∧ (1 ≤ c.fresh ∧ c.fresh ≤ 100) := by
  have h9 : eachE [c.miss, c.good, c.fresh] 1 100 = 0 := newE_zero h 9 (by omega)
  simp only [eachE] at h9
  split at h9
  · rename_i e1
    split at h9
    · rename_i e2
      split at h9
      · rename_i e3
        have a := within_zero e1
        have b := within_zero e2
        have c := within_zero e3
        exact ⟨a, b, c⟩
      · rename_i e3; exact absurd h9 e3
    · rename_i e2; exact absurd h9 e2
  · rename_i e1; exact absurd h9 e1
theorem and_one8 : ∀ x : Fin 256, bits .and .u8 (x.val : Int) 1 = (x.val : Int) % 2 := by decide +kernel
theorem bit_eq {r : Int} (h : 0 ≤ r ∧ r < 256) (q : Nat) : (bits .and .u8 (r / 2 ^ q) 1 == 1) = bitB r q := by
  have h1 : 0 ≤ r / 2 ^ q := Int.ediv_nonneg h.1 (Int.le_of_lt (Int.pow_pos (by omega)))
  have h2 : r / 2 ^ q ≤ r := Int.ediv_le_self _ h.1
  have := and_one8 ⟨(r / 2 ^ q).toNat, by omega⟩
  simp only [Int.toNat_of_nonneg h1] at this
  rw [this, bitB]
  rfl
theorem goodN_le (np : Nat) (rs : List Int) {g0 : Int} (h : 0 ≤ g0 ∧ g0 < 256) (q : Nat) : ∀ k : Nat, 0 ≤ goodN np rs g0 q k ∧ goodN np rs g0 q k ≤ 255 + k
  | 0 => by simp only [goodN]; omega
  | k + 1 => by
    have ih := goodN_le np rs h q k
    simp only [goodN]
    split
    · split <;> omega
    · omega
theorem missN_le (np : Nat) (rs : List Int) {g0 : Int} (h : 0 ≤ g0 ∧ g0 < 256) (q : Nat) : ∀ k : Nat, 0 ≤ missN np rs g0 q k ∧ missN np rs g0 q k ≤ 255 + k
  | 0 => by simp only [missN]; omega
  | k + 1 => by
    have ih := missN_le np rs h q k
    simp only [missN]
    split
    · split <;> omega
    · omega
def arr8 (f : Nat → Int) : Array Value := #[.int .i64 (f 0), .int .i64 (f 1), .int .i64 (f 2), .int .i64 (f 3), .int .i64 (f 4), .int .i64 (f 5), .int .i64 (f 6), .int .i64 (f 7)]
theorem arr8_at (f : Nat → Int) {k : Nat} (h : k < 8) : (arr8 f)[k]? = some (.int .i64 (f k)) := by
  match k, h with
  | 0, _ | 1, _ | 2, _ | 3, _ | 4, _ | 5, _ | 6, _ | 7, _ => rfl
theorem arr8_set (f : Nat → Int) {k : Nat} (h : k < 8) (x : Int) : (arr8 f).setIfInBounds k (.int .i64 x) = arr8 (fun p => if p = k then x else f p) := by
  match k, h with
  | 0, _ | 1, _ | 2, _ | 3, _ | 4, _ | 5, _ | 6, _ | 7, _ => rfl
theorem arr8_congr {f g : Nat → Int} (h : ∀ p, p < 8 → f p = g p) : arr8 f = arr8 g := by
  unfold arr8
  rw [h 0 (by omega), h 1 (by omega), h 2 (by omega), h 3 (by omega), h 4 (by omega), h 5 (by omega), h 6 (by omega), h 7 (by omega)]

theorem part_set {f g : Nat → Int} {q : Nat} (h : q < 8) {x : Int} (hx : g q = x) : (arr8 (fun t => if t < q then g t else f t)).setIfInBounds q (.int .i64 x) = arr8 (fun t => if t < q + 1 then g t else f t) := by
  rw [arr8_set _ h]
  refine arr8_congr fun t ht => ?_
  by_cases e : t = q
  · subst e; rw [if_pos rfl, if_pos (by omega), hx]
  · rw [if_neg e]
    by_cases h1 : t < q
    · rw [if_pos h1, if_pos (by omega)]
    · rw [if_neg h1, if_neg (by omega)]

set_option maxRecDepth 100000 in
set_option maxHeartbeats 16000000 in
theorem lawRun_main (n : Int) (A1 : Option Addr) (c1 : Nat) (ps : List Int) (A2 : Option Addr) (c2 : Nat) (ss : List Int) (long : Int) (A3 : Option Addr) (c3 : Nat) (bs : List Int) (A4 : Option Addr) (c4 : Nat) (st : List Stn) (miss good fresh : Int) (cs : Array Value) (hv : VwOk cs) (A : Option Addr) (c : Nat) (xs : List Int) (w : World) (hc : CfgIn w A1 ps A2 ss A3 bs A4 st) (hb : newE ⟨n, ps, ss, long, bs, st, miss, good, fresh⟩ = 0)
    (hl : xs.length ≤ 200) (hm : mayB ps.length cs = true) (hr : RdV w A (xs.map (Value.int .u8))) (hx : ∀ x ∈ xs, 0 ≤ x ∧ x < 256) :
    Calls Tryd.prog 3 #[(.agg #[.int .i64 n, .slice A1 ps.length c1, .slice A2 ss.length c2, .int .i64 long, .slice A3 bs.length c3, .slice A4 st.length c4, .int .i64 miss, .int .i64 good, .int .i64 fresh]), .agg cs, .slice A xs.length c] w fun e w' => e = .returned (.bool true) ∧ Below w.heap.size w w' := by
  have HS := Lib.hid hc.signs
  have HN := Lib.hid fun (W : World) (h : Below w.heap.size w W) => new_ok n A1 c1 ps A2 c2 ss long A3 c3 bs A4 c4 st miss good fresh W (hc.below h) hb
  have HV := Lib.hid hv
  have HM := Lib.hid hm
  have HR := Lib.hid hr
  have HX := Lib.hid hx
  have HE := Lib.hid hb
  clear hc hb hv hm hr hx
  go_enter Tryd.func3, Tryd.ntmps3
  go_upto_region 1 with fail
  refine gen_wp (fun U => Hid (Blk U w.heap.size 25 #[.int .i64 n, .slice A1 ps.length c1, .slice A2 ss.length c2, .int .i64 long, .slice A3 bs.length c3, .slice A4 st.length c4, .int .i64 miss, .int .i64 good, .int .i64 fresh]) ∧ Hid (Blk U (w.heap.size + 1) 32 cs) ∧ Hid (Below w.heap.size w U)) ⟨Lib.hid ((Blk.new_ w _ _ rfl).alloc _), Lib.hid (Blk.new_ _ _ _ (by simp)), Lib.hid (Below.allocW (ba _ _) _)⟩ ?_
  rintro U ⟨KC, KV, HB⟩
  obtain ⟨z0, z1, z2, z3, z4, z5, z6, z7, z8⟩ := box9 KC.out
  go_upto_region 2 with (go_at_call 7; refine (HN.out _ HB.out).mono ?_; rintro e w1 ⟨p, rfl, hna, -, hb1⟩; have HB1 := Lib.hid (Below.then_ HB.out hb1); have HNA := Lib.hid hna; have KV1 := Lib.hid (KV.out.below hb1); have KC1 := Lib.hid (KC.out.below hb1); clear hb1 hna)
  have HMA := Lib.hid (may_any p _ cs HV.out w1 HNA.out)
  dsimp only at HMA
  rw [HM.out] at HMA
  have hl1 : decide ((200 : Int) < (xs.length : Int)) = false := by simp; omega
  clear z0 z1 z2 z3 z4 z5 z6 z7 z8
  go_upto_region 4 with (first
      | (refine wpList_load_at rfl 32 (.tmp 4) rfl (w.heap.size + 1) 0 rfl cs _ KV1.out.range Tryd.underlying32 rfl HV.out.inf ?_)
      | (go_at_call 8; refine (HMA.out).mono ?_; rintro e w2 ⟨rfl, hb2⟩; have HB2 := Lib.hid hb2; clear hb2))
  have hmk : ∀ W : World, (Instr.makeSlice 22 (.int .i64 8) (.int .i64 8)).run Tryd.prog W = .ok (.slice (some ⟨W.heap.size, 0, none⟩) 8 8) (W.alloc (.cells (arr8 fun _ => 0) 3)) := fun _ => by kernel_rfl
  go_wp2_with fail
  refine gen_wp (fun X => Hid (Blk X w.heap.size 25 #[.int .i64 n, .slice A1 ps.length c1, .slice A2 ss.length c2, .int .i64 long, .slice A3 bs.length c3, .slice A4 st.length c4, .int .i64 miss, .int .i64 good, .int .i64 fresh]) ∧ Hid (Blk X (w.heap.size + 1) 32 cs) ∧ Hid (Blk X w2.heap.size 3 (arr8 fun _ => 0)) ∧ Hid (Blk X (w2.heap.size + 1) 3 (arr8 fun _ => 0)) ∧ Hid (But w1.heap.size (w.heap.size + 1) w1 X) ∧ Hid (Below w.heap.size w X))
    ⟨Lib.hid (((KC1.out.below HB2.out).alloc _).alloc _), Lib.hid (((KV1.out.below HB2.out).alloc _).alloc _), Lib.hid ((Blk.new_ _ _ _ rfl).alloc _), Lib.hid (Blk.new_ _ _ _ (by simp)), Lib.hid ((But.refl _ _ _).below (Below.allocW (Below.allocW HB2.out _) _) (Nat.le_refl _)), Lib.hid (Below.allocW (Below.allocW (Below.then_ HB1.out HB2.out) _) _)⟩ ?_
  have hlt : w.heap.size + 1 < w1.heap.size := KV1.out.lt
  have hle : w1.heap.size ≤ w2.heap.size := HB2.out.size
  obtain ⟨G, eG⟩ : ∃ G, w2.heap.size = G := ⟨_, rfl⟩
  obtain ⟨BV, eV⟩ : ∃ G, w.heap.size + 1 = G := ⟨_, rfl⟩
  obtain ⟨N1, eN⟩ : ∃ N1, w1.heap.size = N1 := ⟨_, rfl⟩
  rw [eG, eN] at hle
  rw [eV, eN] at hlt
  rw [eV] at KV1
  rw [eG, eV, eN]
  have HLT := Lib.hid (show w.heap.size < BV ∧ BV < N1 ∧ N1 ≤ G by omega)
  have HNT := Lib.hid fun (W : World) (hb : But N1 BV w1 W) => HNA.out.but (by rw [eN]; exact hb) KV1.out HV.out
  clear hlt hle eG eV eN HMA HB1 HB2 KC1 KV1 KC KV HB HNA HN hmk
  rintro X ⟨KC, KV, KG, KM, HNB, HB⟩
  go_loopw [11] (fun i wr => ∃ k : Nat, k ≤ 8 ∧ i = .int .i64 k ∧ Hid (Blk wr w.heap.size 25 #[.int .i64 n, .slice A1 ps.length c1, .slice A2 ss.length c2, .int .i64 long, .slice A3 bs.length c3, .slice A4 st.length c4, .int .i64 miss, .int .i64 good, .int .i64 fresh]) ∧ Hid (Blk wr BV 32 (bareV k cs)) ∧ Hid (Blk wr G 3 (arr8 fun q => if q < k then nm cs (16 + q) else 0)) ∧ Hid (Blk wr (G + 1) 3 (arr8 fun q => if q < k then nm cs (8 + q) else 0)) ∧ Hid (But N1 BV w1 wr) ∧ Hid (Below w.heap.size w wr)) (fun i _ => 8 - (intOf i).toNat)
  case atStart => exact ⟨0, by omega, rfl, KC, KV, Lib.hid (by simpa using KG.out), Lib.hid (by simpa using KM.out), HNB, HB⟩
  case round =>
    clear KC KV KG KM HNB HB
    obtain ⟨k, hk, rfl, KC, KV, KG, KM, HNB, HB⟩ := hrel
    have HVK := Lib.hid (bareV_ok HV.out k hk)
    by_cases hlt : k < 8
    · have k0 : (0 : Int) ≤ (k : Int) := by omega
      have k1 : (k : Int) < 8 := by omega
      obtain ⟨-, c2, c3, -, c5⟩ := vcells KV.out HVK.out hlt
      have e2 : nm (bareV k cs) (8 + k) = nm cs (8 + k) := by unfold nm; rw [bareV_off k fun p hp => by omega]
      have e3 : nm (bareV k cs) (16 + k) = nm cs (16 + k) := by unfold nm; rw [bareV_off k fun p hp => by omega]
      have m1 := (HV.out.u8 (8 + k) (by omega) (by omega)).2
      have m2 := (HV.out.u8 (16 + k) (by omega) (by omega)).2
      rw [e2] at c2
      rw [e3] at c3
      obtain ⟨x1, f1⟩ : ∃ b, nm cs (8 + k) = b := ⟨_, rfl⟩
      obtain ⟨x2, f2⟩ : ∃ b, nm cs (16 + k) = b := ⟨_, rfl⟩
      rw [f1] at c2 m1
      rw [f2] at c3 m2
      have F1 := Lib.hid f1
      have F2 := Lib.hid f2
      have hN := HLT.out
      have d1 := (KG.out.cell k).trans (arr8_at _ hlt)
      have d2 := (KM.out.cell k).trans (arr8_at _ hlt)
      have g1 := KG.out.frozen k
      have g2 := KM.out.frozen k
      have g3 := KV.out.frozen (32 + k)
      have n1 : ¬ G = BV := by omega
      have n2 : ¬ G + 1 = BV := by omega
      clear e2 e3 f1 f2 hN
      go_wp2_with fail
      go_roundw
      case rel =>
        have hN := HLT.out
        refine ⟨k + 1, by omega, by go_num, Lib.hid (((KC.out.far (by simp; omega) _).far (by simp; omega) _).far (by simp; omega) _), Lib.hid (((KV.out.far (by simp; omega) _).far (by simp; omega) _).set_ (32 + k) _), Lib.hid ?_, Lib.hid ?_, Lib.hid (((HNB.out.setCell _ (.inr (by simp; omega)) _).setCell _ (.inr (by simp; omega)) _).setCell _ (.inl rfl) _), Lib.hid (((HB.out.setCell (by simp; omega) _).setCell (by simp; omega) _).setCell (by simp; omega) _)⟩
        · have e : arr8 (fun q => if q < k + 1 then nm cs (16 + q) else 0) = (arr8 fun q => if q < k then nm cs (16 + q) else 0).setIfInBounds k (.int .i64 x2) := by
            rw [arr8_set _ hlt]
            refine arr8_congr fun q hq => ?_
            by_cases e : q = k
            · subst e; rw [if_pos (by omega), if_pos rfl, F2.out]
            · rw [if_neg e]
              by_cases h : q < k
              · rw [if_pos (by omega), if_pos h]
              · rw [if_neg (by omega), if_neg h]
          rw [e]
          exact ((KG.out.set_ k _).far (by simp) _).far (by simp; omega) _
        · have e : arr8 (fun q => if q < k + 1 then nm cs (8 + q) else 0) = (arr8 fun q => if q < k then nm cs (8 + q) else 0).setIfInBounds k (.int .i64 x1) := by
            rw [arr8_set _ hlt]
            refine arr8_congr fun q hq => ?_
            by_cases e : q = k
            · subst e; rw [if_pos (by omega), if_pos rfl, F1.out]
            · rw [if_neg e]
              by_cases h : q < k
              · rw [if_pos (by omega), if_pos h]
              · rw [if_neg (by omega), if_neg h]
          rw [e]
          exact ((KM.out.far (by simp) _).set_ k _).far (by simp; omega) _
      case measure => simp [intOf]; omega
    · obtain rfl : k = 8 := by omega
      have HBD := Lib.hid (bounds_of HE.out)
      have HRS := Lib.hid (run_start (np := ps.length) HBD.out.p1 HV.out HM.out)
      have KG' : Blk wr G 3 (arr8 fun q => goodN ps.length xs (nm cs (16 + q)) q 0) := by
        rw [arr8_congr (g := fun q => if q < 8 then nm cs (16 + q) else 0) fun q hq => by rw [if_pos hq]; rfl]; exact KG.out
      have KM' : Blk wr (G + 1) 3 (arr8 fun q => missN ps.length xs (nm cs (8 + q)) q 0) := by
        rw [arr8_congr (g := fun q => if q < 8 then nm cs (8 + q) else 0) fun q hq => by rw [if_pos hq]; rfl]; exact KM.out
      have HKG := Lib.hid KG'
      have HKM := Lib.hid KM'
      clear KG' KM' KG KM HVK
      obtain ⟨V0, eV0⟩ : ∃ V0, bareV 8 cs = V0 := ⟨_, rfl⟩
      rw [eV0] at KV HRS
      clear eV0
      go_wp2_with fail
      simp only [show ((8 : Nat) : Int) = 8 from rfl]
      go_loopw [12] (fun i wr => ∃ j : Nat, j ≤ xs.length ∧ i = .int .i64 j ∧ Hid (Blk wr w.heap.size 25 #[.int .i64 n, .slice A1 ps.length c1, .slice A2 ss.length c2, .int .i64 long, .slice A3 bs.length c3, .slice A4 st.length c4, .int .i64 miss, .int .i64 good, .int .i64 fresh]) ∧ Hid (Blk wr BV 32 (runV ps.length miss good xs j V0)) ∧ Hid (Blk wr G 3 (arr8 fun q => goodN ps.length xs (nm cs (16 + q)) q j)) ∧ Hid (Blk wr (G + 1) 3 (arr8 fun q => missN ps.length xs (nm cs (8 + q)) q j)) ∧ Hid (But N1 BV w1 wr) ∧ Hid (Below w.heap.size w wr) ∧
        Hid (RunInv ps.length cs (runV ps.length miss good xs j V0) (fun q => goodN ps.length xs (nm cs (16 + q)) q j) (fun q => missN ps.length xs (nm cs (8 + q)) q j))) (fun i _ => xs.length - (intOf i).toNat)
      case atStart => exact ⟨0, by omega, rfl, KC, KV, HKG, HKM, HNB, HB, HRS⟩
      case round =>
        clear KC KV HKG HKM HNB HB HRS hlt hk
        obtain ⟨j, hj, rfl, KC, KV, KG, KM, HNB, HB, HRI⟩ := hrel
        obtain ⟨V, eV⟩ : ∃ V, runV ps.length miss good xs j V0 = V := ⟨_, rfl⟩
        rw [eV] at KV HRI
        have EV := Lib.hid eV
        clear eV
        have HVJ := Lib.hid HRI.out.ok
        by_cases hjl : j < xs.length
        · obtain ⟨ba, off, rfl, hcell⟩ := HR.out (by intro e; rw [List.map_eq_nil_iff] at e; subst e; simp at hjl)
          obtain ⟨r, er⟩ : ∃ r, xs[j]? = some r := ⟨_, List.getElem?_eq_getElem hjl⟩
          have hrb : 0 ≤ r ∧ r < 256 := HX.out r (List.mem_of_getElem? er)
          have hcj := hcell j (.int .u8 r) (by simp [er])
          have ER := Lib.hid er
          have HCJ := Lib.hid hcj
          clear er hcell hcj
          obtain ⟨wo, rfl⟩ : ∃ wo : World, wo = wr := ⟨_, rfl⟩
          go_upto_region 16 with (first
            | (refine wpList_load_at rfl 32 (.tmp 4) rfl BV 0 rfl V _ KV.out.range Tryd.underlying32 rfl HVJ.out.inf ?_)
            | (refine wpList_store_at rfl 32 (.tmp 13) (.tmp 67) rfl _ 32 zeroV V (Blk.new_ _ _ _ rfl) rfl rfl HVJ.out.inf (by rw [HVJ.out.size]; rfl) HVJ.out.all ?_))
          have hsz := HNB.out.size
          have hN1 := HLT.out
          have hGl := KM.out.lt
          refine gen_wp (fun X => Hid (Blk X w.heap.size 25 #[.int .i64 n, .slice A1 ps.length c1, .slice A2 ss.length c2, .int .i64 long, .slice A3 bs.length c3, .slice A4 st.length c4, .int .i64 miss, .int .i64 good, .int .i64 fresh]) ∧ Hid (Blk X BV 32 V) ∧ Hid (Blk X G 3 (arr8 fun q => goodN ps.length xs (nm cs (16 + q)) q j)) ∧ Hid (Blk X (G + 1) 3 (arr8 fun q => missN ps.length xs (nm cs (8 + q)) q j)) ∧ Hid (Blk X wo.heap.size 32 V) ∧ Hid (But N1 BV w1 X) ∧ Hid (Below w.heap.size w X))
            ⟨Lib.hid ((KC.out.alloc _).setRow_far (by omega) _), Lib.hid ((KV.out.alloc _).setRow_far (by omega) _), Lib.hid ((KG.out.alloc _).setRow_far (by omega) _), Lib.hid ((KM.out.alloc _).setRow_far (by omega) _), Lib.hid ((Blk.new_ _ _ _ rfl).setRow V), Lib.hid ((HNB.out.alloc (by omega) _).setRow _ (.inr (by omega)) _), Lib.hid (below_setRow (Below.allocW HB.out _) (by omega) _)⟩ ?_
          obtain ⟨BW, eBW⟩ : ∃ BW, wo.heap.size = BW := ⟨_, rfl⟩
          rw [eBW] at hGl ⊢
          have HBW := Lib.hid (show w.heap.size < BV ∧ BV < N1 ∧ N1 ≤ G ∧ G + 1 < BW by omega)
          clear hsz hN1 hGl eBW KC KV KG KM HNB HB
          rintro X ⟨KC, KV, KG, KM, KW, HNB, HB⟩
          go_wp2_with fail
          go_loopw [14] (fun i wr => ∃ q : Nat, q ≤ 8 ∧ i = .int .i64 q ∧ Hid (Blk wr w.heap.size 25 #[.int .i64 n, .slice A1 ps.length c1, .slice A2 ss.length c2, .int .i64 long, .slice A3 bs.length c3, .slice A4 st.length c4, .int .i64 miss, .int .i64 good, .int .i64 fresh]) ∧ Hid (Blk wr BV 32 (hearK ps.length r q V)) ∧ Hid (Blk wr G 3 (arr8 fun q => goodN ps.length xs (nm cs (16 + q)) q j)) ∧ Hid (Blk wr (G + 1) 3 (arr8 fun q => missN ps.length xs (nm cs (8 + q)) q j)) ∧ Hid (Blk wr BW 32 V) ∧ Hid (But N1 BV w1 wr) ∧ Hid (Below w.heap.size w wr)) (fun i _ => 8 - (intOf i).toNat)
          case atStart => exact ⟨0, by omega, rfl, KC, KV, KG, KM, KW, HNB, HB⟩
          case round =>
            clear KC KV KG KM KW HNB HB
            obtain ⟨q, hq, rfl, KC, KV, KG, KM, KW, HNB, HB⟩ := hrel
            have HBD := Lib.hid (bounds_of HE.out)
            have HVQ := Lib.hid (hearK_ok (np := ps.length) (r := r) HBD.out.p1 HVJ.out q hq)
            obtain ⟨D, eD⟩ : ∃ D, hearK ps.length r q V = D := ⟨_, rfl⟩
            rw [eD] at KV HVQ
            have ED := Lib.hid eD
            clear eD
            by_cases hlt : q < 8
            · have q0 : (0 : Int) ≤ (q : Int) := by omega
              have q1 : (q : Int) < 8 := by omega
              have j0 : (0 : Int) ≤ (j : Int) := by omega
              have j1 : (j : Int) < (xs.length : Int) := by omega
              have cj := Below.keeps HB.out HCJ.out
              obtain ⟨r0, r1⟩ := hrb
              have HHR := Lib.hid (heard_any p ⟨n, ps, ss, long, bs, st, miss, good, fresh⟩ D HVQ.out q wr (HNT.out wr HNB.out))
              dsimp only at HHR
              obtain ⟨B, eB⟩ : ∃ B, bitB r q = B := ⟨_, rfl⟩
              have hbit : (bits .and .u8 (r / 2 ^ q) 1 == 1) = B := (bit_eq ⟨r0, r1⟩ q).trans eB
              have EB := Lib.hid eB
              clear eB
              have EN := Lib.hid (show hearK ps.length r (q + 1) V = if bitB r q = true then heardV ps.length D q else D by show hearStep ps.length r q (hearK ps.length r q V) = _; rw [ED.out]; rfl)
              have HVH := Lib.hid (heardV_ok HBD.out.p1 HVQ.out (q : Int))
              obtain ⟨H, eH⟩ : ∃ H, heardV ps.length D (q : Int) = H := ⟨_, rfl⟩
              rw [eH] at HHR EN HVH
              clear eH
              cases B
              · go_wp2_with fail
                go_roundw
                case rel => exact ⟨q + 1, by omega, by go_num, KC, Lib.hid (by rw [EN.out, EB.out]; exact KV.out), KG, KM, KW, HNB, HB⟩
                case measure => simp [intOf]; omega
              · go_wp2_with (first
                  | (refine wpList_load_at rfl 32 (.tmp 4) rfl BV 0 rfl D _ KV.out.range Tryd.underlying32 rfl HVQ.out.inf ?_)
                  | (refine wpList_store_at rfl 32 (.tmp 4) (.tmp 83) rfl BV 32 D H (KV.out.below HBH.out) rfl rfl HVH.out.inf (by rw [HVH.out.size, HVQ.out.size]) HVH.out.all ?_)
                  | (go_at_call 10; refine (HHR.out).mono ?_; rintro e wh ⟨rfl, hbh⟩; have HBH := Lib.hid hbh; clear hbh))
                go_roundw
                case rel =>
                  have hN := HBW.out
                  have hs1 := HNB.out.size
                  have hs2 := KM.out.lt
                  exact ⟨q + 1, by omega, by go_num, Lib.hid ((KC.out.below HBH.out).setRow_far (by omega) _), Lib.hid (by rw [EN.out, EB.out]; exact (KV.out.below HBH.out).setRow _), Lib.hid ((KG.out.below HBH.out).setRow_far (by omega) _), Lib.hid ((KM.out.below HBH.out).setRow_far (by omega) _), Lib.hid ((KW.out.below HBH.out).setRow_far (by omega) _), Lib.hid ((HNB.out.below HBH.out (by omega)).setRow _ (.inl rfl) _), Lib.hid (below_setRow (Below.then_ HB.out HBH.out) (by omega) _)⟩
                case measure => simp [intOf]; omega
            · obtain rfl : q = 8 := by omega
              have HCN := Lib.hid (counts_of HE.out)
              have hrun := run_step (miss := miss) (good := good) (r := r) HBD.out.p1 HCN.out.1 HCN.out.2.1 HRI.out
              rw [ED.out] at hrun
              have HST := Lib.hid (show runV ps.length miss good xs (j + 1) V0 = roundV ps.length miss good D by
                show stepR ps.length miss good xs j (runV ps.length miss good xs j V0) = _
                rw [EV.out, stepR, ER.out]; exact congrArg _ ED.out)
              have HRD := Lib.hid (round_mem p ⟨n, ps, ss, long, bs, st, miss, good, fresh⟩ D HVQ.out wr (HS.out.below HB.out) (HNT.out wr HNB.out))
              dsimp only at HRD
              obtain ⟨V', eV'⟩ : ∃ V', roundV ps.length miss good D = V' := ⟨_, rfl⟩
              rw [eV'] at HST HRD hrun
              have HGM := Lib.hid (show (∀ q, goodN ps.length xs (nm cs (16 + q)) q (j + 1) = if q < ps.length then (if bitB r q = true then goodN ps.length xs (nm cs (16 + q)) q j + 1 else 0) else goodN ps.length xs (nm cs (16 + q)) q j) ∧ (∀ q, missN ps.length xs (nm cs (8 + q)) q (j + 1) = if q < ps.length then (if bitB r q = true then 0 else missN ps.length xs (nm cs (8 + q)) q j + 1) else missN ps.length xs (nm cs (8 + q)) q j) by
                constructor <;> intro q <;> simp only [goodN, missN, ER.out, Option.getD_some])
              have HRN := Lib.hid hrun.1
              have HIN := Lib.hid hrun.2
              have HVN := Lib.hid hrun.1.ok
              clear eV' hrun
              go_upto_region 22 with (first
                | (refine wpList_load_at rfl 32 (.tmp 4) rfl BV 0 rfl D _ KV.out.range Tryd.underlying32 rfl HVQ.out.inf ?_)
                | (refine wpList_store_at rfl 32 (.tmp 4) (.tmp 86) rfl BV 32 D V' (KV.out.below HBH.out) rfl rfl HVN.out.inf (by rw [HVN.out.size, HVQ.out.size]) HVN.out.all ?_)
                | (go_at_call 11; refine (HRD.out).mono ?_; rintro e wh ⟨rfl, hbh⟩; have HBH := Lib.hid hbh; clear hbh))
              have hN := HBW.out
              have hs1 := HNB.out.size
              have hs2 := KM.out.lt
              refine gen_wp (fun X => Hid (Blk X w.heap.size 25 #[.int .i64 n, .slice A1 ps.length c1, .slice A2 ss.length c2, .int .i64 long, .slice A3 bs.length c3, .slice A4 st.length c4, .int .i64 miss, .int .i64 good, .int .i64 fresh]) ∧ Hid (Blk X BV 32 V') ∧ Hid (Blk X G 3 (arr8 fun q => goodN ps.length xs (nm cs (16 + q)) q j)) ∧ Hid (Blk X (G + 1) 3 (arr8 fun q => missN ps.length xs (nm cs (8 + q)) q j)) ∧ Hid (Blk X BW 32 V) ∧ Hid (But N1 BV w1 X) ∧ Hid (Below w.heap.size w X))
                ⟨Lib.hid ((KC.out.below HBH.out).setRow_far (by omega) _), Lib.hid ((KV.out.below HBH.out).setRow _), Lib.hid ((KG.out.below HBH.out).setRow_far (by omega) _), Lib.hid ((KM.out.below HBH.out).setRow_far (by omega) _), Lib.hid ((KW.out.below HBH.out).setRow_far (by omega) _), Lib.hid ((HNB.out.below HBH.out (by omega)).setRow _ (.inl rfl) _), Lib.hid (below_setRow (Below.then_ HB.out HBH.out) (by omega) _)⟩ ?_
              clear hN hs1 hs2 KC KV KG KM KW HNB HB HBH HRD
              rintro X ⟨KC, KV, KG, KM, KW, HNB, HB⟩
              have HMV := Lib.hid (may_any p ⟨n, ps, ss, long, bs, st, miss, good, fresh⟩ V' HVN.out X (HNT.out X HNB.out))
              dsimp only at HMV
              rw [HRN.out.may] at HMV
              obtain ⟨C, eC⟩ : ∃ C, nm cs 40 = C := ⟨_, rfl⟩
              obtain ⟨M, eM⟩ : ∃ M, nm cs 41 = M := ⟨_, rfl⟩
              have x1 := (KV.out.cell 40).trans (HVN.out.cmd.1)
              have x2 := (KV.out.cell 41).trans (HVN.out.mode.1)
              have x3 := (KW.out.cell 40).trans (HVJ.out.cmd.1)
              have x4 := (KW.out.cell 41).trans (HVJ.out.mode.1)
              rw [HRN.out.cmd, eC] at x1
              rw [HRN.out.mode, eM] at x2
              rw [HRI.out.cmd, eC] at x3
              rw [HRI.out.mode, eM] at x4
              clear eC eM
              go_wp2_with (first
                | (refine wpList_load_at rfl 32 (.tmp 4) rfl BV 0 rfl V' _ KV.out.range Tryd.underlying32 rfl HVN.out.inf ?_)
                | (go_at_call 8; refine (HMV.out).mono ?_; rintro e wm ⟨rfl, hbm⟩; have HBM := Lib.hid hbm; have y1 := Below.keeps hbm x1; have y2 := Below.keeps hbm x2; have y3 := Below.keeps hbm x3; have y4 := Below.keeps hbm x4; clear hbm x1 x2 x3 x4))
              have hN := HBW.out
              have hs1 := KM.out.lt
              have kc := KC.out.below HBM.out
              have c1' := kc.cell 1
              simp at c1'
              go_loopw [15, 16] (fun i _ wr => ∃ q : Nat, q ≤ ps.length ∧ i = .int .i64 q ∧ Hid (Blk wr w.heap.size 25 #[.int .i64 n, .slice A1 ps.length c1, .slice A2 ss.length c2, .int .i64 long, .slice A3 bs.length c3, .slice A4 st.length c4, .int .i64 miss, .int .i64 good, .int .i64 fresh]) ∧ Hid (Blk wr BV 32 V') ∧ Hid (Blk wr G 3 (arr8 fun t => if t < q then goodN ps.length xs (nm cs (16 + t)) t (j + 1) else goodN ps.length xs (nm cs (16 + t)) t j)) ∧ Hid (Blk wr (G + 1) 3 (arr8 fun t => if t < q then missN ps.length xs (nm cs (8 + t)) t (j + 1) else missN ps.length xs (nm cs (8 + t)) t j)) ∧ Hid (Blk wr BW 32 V) ∧ Hid (But N1 BV w1 wr) ∧ Hid (Below w.heap.size w wr)) (fun i _ _ => ps.length - (intOf i).toNat)
              case atStart => exact ⟨0, by omega, rfl, Lib.hid kc, Lib.hid (KV.out.below HBM.out), Lib.hid (by simpa using KG.out.below HBM.out), Lib.hid (by simpa using KM.out.below HBM.out), Lib.hid (KW.out.below HBM.out), Lib.hid (HNB.out.below HBM.out (by omega)), Lib.hid (Below.then_ HB.out HBM.out)⟩
              case round =>
                clear kc c1' KC KV KG KM KW HNB HB HBM hs1 hN y1 y2 y3 y4
                obtain ⟨q, hq, rfl, KC, KV, KG, KM, KW, HNB, HB⟩ := hrel
                have z1 := KC.out.cell 1
                simp at z1
                by_cases hlt : q < ps.length
                · have hq8 : q < 8 := by have := HBD.out.p1; dsimp only at this; omega
                  have q0 : (0 : Int) ≤ (q : Int) := by omega
                  have q1 : (q : Int) < 8 := by omega
                  have j0 : (0 : Int) ≤ (j : Int) := by omega
                  have j1 : (j : Int) < (xs.length : Int) := by omega
                  have cj := Below.keeps HB.out HCJ.out
                  have GB := goodN_le ps.length xs (HV.out.u8 (16 + q) (by omega) (by omega)).2 q j
                  have MB := missN_le ps.length xs (HV.out.u8 (8 + q) (by omega) (by omega)).2 q j
                  obtain ⟨g, eg⟩ : ∃ g, goodN ps.length xs (nm cs (16 + q)) q j = g := ⟨_, rfl⟩
                  obtain ⟨m, em⟩ : ∃ m, missN ps.length xs (nm cs (8 + q)) q j = m := ⟨_, rfl⟩
                  obtain ⟨g', eg'⟩ : ∃ g', goodN ps.length xs (nm cs (16 + q)) q (j + 1) = g' := ⟨_, rfl⟩
                  obtain ⟨m', em'⟩ : ∃ m', missN ps.length xs (nm cs (8 + q)) q (j + 1) = m' := ⟨_, rfl⟩
                  obtain ⟨B, eB⟩ : ∃ B, bitB r q = B := ⟨_, rfl⟩
                  have hbit : (bits .and .u8 (r / 2 ^ q) 1 == 1) = B := (bit_eq hrb q).trans eB
                  have NG := HGM.out.1 q
                  have NM := HGM.out.2 q
                  rw [if_pos hlt, eB, eg, eg'] at NG
                  rw [if_pos hlt, eB, em, em'] at NM
                  rw [eg] at GB
                  rw [em] at MB
                  have HNG := Lib.hid NG
                  have HNM := Lib.hid NM
                  have d1 := (KG.out.cell q).trans (arr8_at _ hq8)
                  have d2 := (KM.out.cell q).trans (arr8_at _ hq8)
                  simp only [Nat.lt_irrefl, if_false] at d1 d2
                  rw [eg] at d1
                  rw [em] at d2
                  have f1 := KG.out.frozen q
                  have f2 := KM.out.frozen q
                  have EGG := Lib.hid eg'
                  have EMM := Lib.hid em'
                  have hN := HBW.out
                  obtain ⟨r0, r1⟩ := hrb
                  have n1 : ¬ G = G + 1 := by omega
                  clear NG NM eg em eg' em' eB
                  go_upto_if 119 with (fail)
                  go_cut [15] (fun s15 wx => s15 = .int .i64 q ∧ Hid (Blk wx w.heap.size 25 #[.int .i64 n, .slice A1 ps.length c1, .slice A2 ss.length c2, .int .i64 long, .slice A3 bs.length c3, .slice A4 st.length c4, .int .i64 miss, .int .i64 good, .int .i64 fresh]) ∧ Hid (Blk wx BV 32 V') ∧ Hid (Blk wx G 3 (arr8 fun t => if t < q + 1 then goodN ps.length xs (nm cs (16 + t)) t (j + 1) else goodN ps.length xs (nm cs (16 + t)) t j)) ∧ Hid (Blk wx (G + 1) 3 (arr8 fun t => if t < q + 1 then missN ps.length xs (nm cs (8 + t)) t (j + 1) else missN ps.length xs (nm cs (8 + t)) t j)) ∧ Hid (Blk wx BW 32 V) ∧ Hid (But N1 BV w1 wx) ∧ Hid (Below w.heap.size w wx))
                  case first =>
                    cases B
                    · simp only [Bool.false_eq_true, if_false] at HNG HNM
                      go_wp2_with fail
                      go_meet
                      refine ⟨rfl, Lib.hid ((KC.out.far (by first | (simp; done) | (simp; omega)) _).far (by first | (simp; done) | (simp; omega)) _), Lib.hid ((KV.out.far (by first | (simp; done) | (simp; omega)) _).far (by first | (simp; done) | (simp; omega)) _), Lib.hid ?_, Lib.hid ?_, Lib.hid ((KW.out.far (by first | (simp; done) | (simp; omega)) _).far (by first | (simp; done) | (simp; omega)) _), Lib.hid ((HNB.out.setCell _ (.inr (by first | (simp; done) | (simp; omega))) _).setCell _ (.inr (by first | (simp; done) | (simp; omega))) _), Lib.hid ((HB.out.setCell (by first | (simp; done) | (simp; omega)) _).setCell (by first | (simp; done) | (simp; omega)) _)⟩
                      · rw [← part_set hq8 (EGG.out.trans HNG.out)]
                        exact (KG.out.far (by first | (simp; done) | (simp; omega)) _).set_ q _
                      · rw [← part_set hq8 (EMM.out.trans HNM.out)]
                        exact (KM.out.set_ q _).far (by first | (simp; done) | (simp; omega)) _
                    · simp only [if_true] at HNG HNM
                      go_wp2_with fail
                      go_meet
                      refine ⟨rfl, Lib.hid ((KC.out.far (by first | (simp; done) | (simp; omega)) _).far (by first | (simp; done) | (simp; omega)) _), Lib.hid ((KV.out.far (by first | (simp; done) | (simp; omega)) _).far (by first | (simp; done) | (simp; omega)) _), Lib.hid ?_, Lib.hid ?_, Lib.hid ((KW.out.far (by first | (simp; done) | (simp; omega)) _).far (by first | (simp; done) | (simp; omega)) _), Lib.hid ((HNB.out.setCell _ (.inr (by first | (simp; done) | (simp; omega))) _).setCell _ (.inr (by first | (simp; done) | (simp; omega))) _), Lib.hid ((HB.out.setCell (by first | (simp; done) | (simp; omega)) _).setCell (by first | (simp; done) | (simp; omega)) _)⟩
                      · rw [← part_set hq8 (EGG.out.trans HNG.out)]
                        exact (KG.out.set_ q _).far (by first | (simp; done) | (simp; omega)) _
                      · rw [← part_set hq8 (EMM.out.trans HNM.out)]
                        exact (KM.out.far (by first | (simp; done) | (simp; omega)) _).set_ q _
                  case rest =>
                    clear KC KV KG KM KW HNB HB z1 cj d1 d2 f1 f2 hbit
                    obtain ⟨rfl, KC, KV, KG, KM, KW, HNB, HB⟩ := hcut
                    have GN := (HRN.out.g q hlt)
                    have MN := (HRN.out.m q hlt)
                    have IN := HIN.out q hlt
                    have HNG2 := HGM.out.1 q
                    have HNM2 := HGM.out.2 q
                    rw [if_pos hlt] at HNG2 HNM2
                    simp only [if_pos hlt] at GN MN
                    rw [← HNG2, EGG.out] at GN
                    rw [← HNM2, EMM.out] at MN
                    rw [← HNG2, ← HNM2, EGG.out, EMM.out] at IN
                    obtain ⟨c1', c2', c3', -, c5'⟩ := vcells KV.out HVN.out hq8
                    obtain ⟨w1', -, -, -, -⟩ := vcells KW.out HVJ.out hq8
                    rw [MN.2] at c2'
                    rw [GN.2] at c3'
                    rw [HRN.out.got q hq8] at c5'
                    have z6 := KC.out.cell 6
                    have z7 := KC.out.cell 7
                    simp at z6 z7
                    have d1 := (KG.out.cell q).trans (arr8_at _ hq8)
                    have d2 := (KM.out.cell q).trans (arr8_at _ hq8)
                    simp only [Nat.lt_succ_self, if_true] at d1 d2
                    rw [EGG.out] at d1
                    rw [EMM.out] at d2
                    have g0 := GN.1
                    have m0 := MN.1
                    obtain ⟨a, ea⟩ : ∃ a, bl V q = a := ⟨_, rfl⟩
                    obtain ⟨b, eb⟩ : ∃ b, bl V' q = b := ⟨_, rfl⟩
                    rw [ea] at IN w1'
                    rw [eb] at IN c1'
                    have HIN2 := Lib.hid IN
                    clear ea eb IN GN MN HNG2 HNM2
                    go_wp2_with fail
                    cases a
                    · by_cases hc : good ≤ g'
                      · have e : b = true := by rw [HIN2.out]; simp [hc]
                        subst e
                        go_quiet (fail)
                        rename_i nq
                        go_wp2_with fail
                        go_quiet (fail)
                        rename_i nr
                        go_wp2_with fail
                        go_roundw
                        case rel => exact ⟨q + 1, by omega, by go_num, Lib.hid (KC.out.drewN _), Lib.hid (KV.out.drewN _), Lib.hid (KG.out.drewN _), Lib.hid (KM.out.drewN _), Lib.hid (KW.out.drewN _), Lib.hid (HNB.out.drewN _), Lib.hid (below_drewN HB.out _)⟩
                        case measure => simp [intOf]; omega
                      · have e : b = false := by rw [HIN2.out]; simp [hc]
                        subst e
                        go_quiet (fail)
                        rename_i nq
                        go_wp2_with fail
                        go_quiet (fail)
                        rename_i nr
                        go_wp2_with fail
                        go_roundw
                        case rel => exact ⟨q + 1, by omega, by go_num, Lib.hid (KC.out.drewN _), Lib.hid (KV.out.drewN _), Lib.hid (KG.out.drewN _), Lib.hid (KM.out.drewN _), Lib.hid (KW.out.drewN _), Lib.hid (HNB.out.drewN _), Lib.hid (below_drewN HB.out _)⟩
                        case measure => simp [intOf]; omega
                    · by_cases hc : m' < miss
                      · have e : b = true := by rw [HIN2.out]; simp [hc]
                        subst e
                        go_quiet (fail)
                        rename_i nq
                        go_wp2_with fail
                        go_quiet (fail)
                        rename_i nr
                        go_wp2_with fail
                        go_roundw
                        case rel => exact ⟨q + 1, by omega, by go_num, Lib.hid (KC.out.drewN _), Lib.hid (KV.out.drewN _), Lib.hid (KG.out.drewN _), Lib.hid (KM.out.drewN _), Lib.hid (KW.out.drewN _), Lib.hid (HNB.out.drewN _), Lib.hid (below_drewN HB.out _)⟩
                        case measure => simp [intOf]; omega
                      · have e : b = false := by rw [HIN2.out]; simp [hc]
                        subst e
                        go_quiet (fail)
                        rename_i nq
                        go_wp2_with fail
                        go_quiet (fail)
                        rename_i nr
                        go_wp2_with fail
                        go_roundw
                        case rel => exact ⟨q + 1, by omega, by go_num, Lib.hid (KC.out.drewN _), Lib.hid (KV.out.drewN _), Lib.hid (KG.out.drewN _), Lib.hid (KM.out.drewN _), Lib.hid (KW.out.drewN _), Lib.hid (HNB.out.drewN _), Lib.hid (below_drewN HB.out _)⟩
                        case measure => simp [intOf]; omega
                · obtain rfl : q = ps.length := by omega
                  go_wp2_with fail
                  go_roundw
                  case rel =>
                    refine ⟨j + 1, by omega, by go_num, KC, Lib.hid (by rw [HST.out]; exact KV.out), Lib.hid ?_, Lib.hid ?_, HNB, HB, Lib.hid ?_⟩
                    · rw [arr8_congr (g := fun t => if t < ps.length then goodN ps.length xs (nm cs (16 + t)) t (j + 1) else goodN ps.length xs (nm cs (16 + t)) t j) fun t ht => by
                        by_cases h : t < ps.length
                        · rw [if_pos h]
                        · rw [if_neg h]; have := HGM.out.1 t; rw [if_neg h] at this; exact this]
                      exact KG.out
                    · rw [arr8_congr (g := fun t => if t < ps.length then missN ps.length xs (nm cs (8 + t)) t (j + 1) else missN ps.length xs (nm cs (8 + t)) t j) fun t ht => by
                        by_cases h : t < ps.length
                        · rw [if_pos h]
                        · rw [if_neg h]; have := HGM.out.2 t; rw [if_neg h] at this; exact this]
                      exact KM.out
                    · rw [HST.out]
                      have e1 : (fun q => goodN ps.length xs (nm cs (16 + q)) q (j + 1)) = fun q => if q < ps.length then (if bitB r q = true then goodN ps.length xs (nm cs (16 + q)) q j + 1 else 0) else goodN ps.length xs (nm cs (16 + q)) q j := funext HGM.out.1
                      have e2 : (fun q => missN ps.length xs (nm cs (8 + q)) q (j + 1)) = fun q => if q < ps.length then (if bitB r q = true then 0 else missN ps.length xs (nm cs (8 + q)) q j + 1) else missN ps.length xs (nm cs (8 + q)) q j := funext HGM.out.2
                      rw [e1, e2]
                      exact HRN.out
                  case measure => simp [intOf]; omega
        · obtain rfl : j = xs.length := by omega
          go_wp2_with (go_at_call 9; refine (lives22_any _ (HS.out.below HB.out)).mono ?_; rintro e w2 ⟨rfl, hb2⟩; have HB2 := Lib.hid (Below.then_ HB.out hb2); clear hb2)
          go_ret
          exact ⟨rfl, HB2.out⟩
end Go.Proofs.YtbmbaalidehoeaaDoor.K
