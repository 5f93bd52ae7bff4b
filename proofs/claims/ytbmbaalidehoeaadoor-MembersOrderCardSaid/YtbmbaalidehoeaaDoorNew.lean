/- configs.New: by whatever config, its answer: an error's number, or a net that reads as the config. -/
import Derived.Test.YtbmbaalidehoeaaDoorRules
import Derived.Test.YtbmbaalidehoeaaDoorOwn
import Derived.Test.YtbmbaalidehoeaaDoorRepeat
import Derived.Laws.EntriesVeiled
import Derived.Deep.RegionHeld3
import Derived.Deep.DeepCutAuto
namespace Go.Proofs.YtbmbaalidehoeaaDoor.K
open Go.RowKit

def ruleF : Nat → Nat
  | 0 => 38 | 1 => 40 | 2 => 41 | 3 => 46 | 4 => 47
  | 5 => 49 | 6 => 50 | 7 => 53 | 8 => 54 | _ => 55
/-- What the rules answer, one by one. -/
def ruleE (c : Cfg) : Nat → Int
  | 0 => rule1 c.nodes | 1 => rule2 c.pairs | 2 => rule3 c.nodes c.pairs | 3 => rule4 c.slots | 4 => rule5 c.pairs c.slots
  | 5 => rule6 c.nodes c.long | 6 => rule7 c.nodes c.boots | 7 => rule8 c.stations | 8 => rule9 c.nodes c.stations | _ => rule10 c.miss c.good c.fresh
/-- The first rule that is not kept to: what it answers. -/
def newE (c : Cfg) : Int := eachNZ ((List.range 10).map (ruleE c))
where eachNZ : List Int → Int
  | [] => 0
  | x :: xs => if x = 0 then eachNZ xs else x

theorem nz_all {xs : List Int} (h : ∀ x ∈ xs, x = 0) : newE.eachNZ xs = 0 := by
  induction xs with
  | nil => rfl
  | cons x xs ih => rw [newE.eachNZ, if_pos (h x (by simp))]; exact ih fun y hy => h y (by simp [hy])
theorem nz_at {xs : List Int} {k : Nat} {x : Int} (hk : xs[k]? = some x) (h : ∀ j y, j < k → xs[j]? = some y → y = 0) (hn : x ≠ 0) : newE.eachNZ xs = x := by
  induction xs generalizing k with
  | nil => simp at hk
  | cons a xs ih =>
    cases k with
    | zero => simp at hk; subst hk; rw [newE.eachNZ, if_neg hn]
    | succ k =>
      rw [newE.eachNZ, if_pos (h 0 a (by omega) rfl)]
      exact ih (by simpa using hk) fun j y hj hy => h (j + 1) y (by omega) (by simpa using hy)
theorem newE_ok {c : Cfg} (h : ∀ j, j < 10 → ruleE c j = 0) : newE c = 0 := nz_all fun x hx => by
  simp only [List.mem_map, List.mem_range] at hx
  obtain ⟨j, hj, rfl⟩ := hx
  exact h j hj
theorem newE_at {c : Cfg} {k : Nat} (hk : k < 10) (h : ∀ j, j < k → ruleE c j = 0) (hn : ruleE c k ≠ 0) : newE c = ruleE c k :=
  nz_at (k := k) (by simp [hk]) (fun j y hj hy => by simp [show j < 10 by omega] at hy; rw [← hy]; exact h j hj) hn

theorem within_zero {x a b : Int} (h : withinE x a b = 0) : a ≤ x ∧ x ≤ b := by
  unfold withinE at h
  split at h
  · cases h
  · split at h
    · cases h
    · omega

/-- What the walks ask of a config's slices. -/
structure CfgIn (w : World) (A1 : Option Addr) (ps : List Int) (A2 : Option Addr) (ss : List Int) (A3 : Option Addr) (bs : List Int) (A4 : Option Addr) (st : List Stn) : Prop where
  signs : Signs w
  r1 : RdI w A1 ps
  r2 : RdI w A2 ss
  r3 : RdI w A3 bs
  r4 : RdV w A4 (stnCells st)
  l1 : ps.length ≤ 17592186044416
  l2 : ss.length ≤ 17592186044416
  l3 : bs.length ≤ 17592186044416
  l4 : st.length ≤ 17592186044416
  n1 : A1 = none → ps.length = 0
  n2 : A2 = none → ss.length = 0
  n3 : A3 = none → bs.length = 0
  n4 : A4 = none → st.length = 0
theorem CfgIn.below {w w' : World} {A1 : Option Addr} {ps : List Int} {A2 : Option Addr} {ss : List Int} {A3 : Option Addr} {bs : List Int} {A4 : Option Addr} {st : List Stn}
    (h : CfgIn w A1 ps A2 ss A3 bs A4 st) (hb : Below w.heap.size w w') : CfgIn w' A1 ps A2 ss A3 bs A4 st :=
  ⟨h.signs.below hb, h.r1.below hb, h.r2.below hb, h.r3.below hb, h.r4.below hb, h.l1, h.l2, h.l3, h.l4, h.n1, h.n2, h.n3, h.n4⟩

theorem rule_any (n : Int) (A1 : Option Addr) (c1 : Nat) (ps : List Int) (A2 : Option Addr) (c2 : Nat) (ss : List Int) (long : Int) (A3 : Option Addr) (c3 : Nat) (bs : List Int) (A4 : Option Addr) (c4 : Nat) (st : List Stn) (miss good fresh : Int) (w : World) (hc : CfgIn w A1 ps A2 ss A3 bs A4 st) (k : Nat) (hk : k < 10) (h0 : ∀ j, j < k → ruleE ⟨n, ps, ss, long, bs, st, miss, good, fresh⟩ j = 0) :
    Calls Tryd.prog (ruleF k) #[(.agg #[.int .i64 n, .slice A1 ps.length c1, .slice A2 ss.length c2, .int .i64 long, .slice A3 bs.length c3, .slice A4 st.length c4, .int .i64 miss, .int .i64 good, .int .i64 fresh])] w fun e w' => e = .returned (.int .i64 (ruleE ⟨n, ps, ss, long, bs, st, miss, good, fresh⟩ k)) ∧ Below w.heap.size w w' := by
  match k, hk with
  | 0, _ => exact r1_any n A1 c1 ps A2 c2 ss long A3 c3 bs A4 c4 st miss good fresh w
  | 1, _ => exact r2_any n A1 c1 ps A2 c2 ss long A3 c3 bs A4 c4 st miss good fresh w
  | 2, _ =>
    have e0 := within_zero (h0 0 (by omega))
    have e1 := within_zero (h0 1 (by omega))
    exact r3_any n A1 c1 ps A2 c2 ss long A3 c3 bs A4 c4 st miss good fresh w hc.signs hc.r1 e0.1 e0.2 (by have := e1.1; dsimp only at this; omega) (by have := e1.2; dsimp only at this; omega)
  | 3, _ => exact r4_any n A1 c1 ps A2 c2 ss long A3 c3 bs A4 c4 st miss good fresh w
  | 4, _ =>
    have e1 := within_zero (h0 1 (by omega))
    have e3 := within_zero (h0 3 (by omega))
    exact r5_any n A1 c1 ps A2 c2 ss long A3 c3 bs A4 c4 st miss good fresh w hc.r2 (by have := e1.2; dsimp only at this; omega) (by have := e3.2; dsimp only at this; omega)
  | 5, _ =>
    have e0 := within_zero (h0 0 (by omega))
    exact r6_any n A1 c1 ps A2 c2 ss long A3 c3 bs A4 c4 st miss good fresh w e0.1 e0.2
  | 6, _ => exact r7_any n A1 c1 ps A2 c2 ss long A3 c3 bs A4 c4 st miss good fresh w hc.r3 hc.l3
  | 7, _ => exact r8_any n A1 c1 ps A2 c2 ss long A3 c3 bs A4 c4 st miss good fresh w
  | 8, _ =>
    have e7 := within_zero (h0 7 (by omega))
    exact r9_any n A1 c1 ps A2 c2 ss long A3 c3 bs A4 c4 st miss good fresh w hc.r4 (by have := e7.2; dsimp only at this; omega)
  | 9, _ => exact r10_any n A1 c1 ps A2 c2 ss long A3 c3 bs A4 c4 st miss good fresh w

theorem rule_enters (k : Nat) (hk : k < 10) : ∀ args w, (callFunc (ruleF k) args).run Tryd.prog w = .ok (.enter (ruleF k) args) w := by
  match k, hk with
  | 0, _ => exact enters_of Tryd.func38 (by kernel_rfl) rfl
  | 1, _ => exact enters_of Tryd.func40 (by kernel_rfl) rfl
  | 2, _ => exact enters_of Tryd.func41 (by kernel_rfl) rfl
  | 3, _ => exact enters_of Tryd.func46 (by kernel_rfl) rfl
  | 4, _ => exact enters_of Tryd.func47 (by kernel_rfl) rfl
  | 5, _ => exact enters_of Tryd.func49 (by kernel_rfl) rfl
  | 6, _ => exact enters_of Tryd.func50 (by kernel_rfl) rfl
  | 7, _ => exact enters_of Tryd.func53 (by kernel_rfl) rfl
  | 8, _ => exact enters_of Tryd.func54 (by kernel_rfl) rfl
  | 9, _ => exact enters_of Tryd.func55 (by kernel_rfl) rfl

theorem box9 {w : World} {b : Nat} {v0 v1 v2 v3 v4 v5 v6 v7 v8 : Value} {t : TypeId} (h : Blk w b t #[v0, v1, v2, v3, v4, v5, v6, v7, v8]) :
    w.cell? ⟨b, 0, none⟩ = some v0 ∧ w.cell? ⟨b, 1, none⟩ = some v1 ∧ w.cell? ⟨b, 2, none⟩ = some v2 ∧ w.cell? ⟨b, 3, none⟩ = some v3 ∧ w.cell? ⟨b, 4, none⟩ = some v4 ∧ w.cell? ⟨b, 5, none⟩ = some v5 ∧ w.cell? ⟨b, 6, none⟩ = some v6 ∧ w.cell? ⟨b, 7, none⟩ = some v7 ∧ w.cell? ⟨b, 8, none⟩ = some v8 :=
  ⟨h.cell 0, h.cell 1, h.cell 2, h.cell 3, h.cell 4, h.cell 5, h.cell 6, h.cell 7, h.cell 8⟩

theorem one_ints (xs : List Int) : ∀ u ∈ xs.map (Value.int .i64), u.oneCell' = true := by
  intro u hu
  simp only [List.mem_map] at hu
  obtain ⟨x, _, rfl⟩ := hu
  rfl
/-- own of a config. -/
theorem own_cfg (n : Int) (A1 : Option Addr) (c1 : Nat) (ps : List Int) (A2 : Option Addr) (c2 : Nat) (ss : List Int) (long : Int) (A3 : Option Addr) (c3 : Nat) (bs : List Int) (A4 : Option Addr) (c4 : Nat) (st : List Stn) (miss good fresh : Int) (w : World) (hc : CfgIn w A1 ps A2 ss A3 bs A4 st) (l1 : ps.length ≤ 16) (l2 : ss.length ≤ 16) (l3 : bs.length ≤ 16) (l4 : st.length ≤ 16) :
    Calls Tryd.prog 18 #[(.agg #[.int .i64 n, .slice A1 ps.length c1, .slice A2 ss.length c2, .int .i64 long, .slice A3 bs.length c3, .slice A4 st.length c4, .int .i64 miss, .int .i64 good, .int .i64 fresh])] w fun e w' =>
      ∃ A1' A2' A3' A4', e = .returned (.agg #[.int .i64 n, .slice A1' ps.length ps.length, .slice A2' ss.length ss.length, .int .i64 long, .slice A3' bs.length bs.length, .slice A4' st.length st.length, .int .i64 miss, .int .i64 good, .int .i64 fresh]) ∧
        RdV w' A1' (ps.map (Value.int .i64)) ∧ RdV w' A2' (ss.map (Value.int .i64)) ∧ RdV w' A3' (bs.map (Value.int .i64)) ∧ RdV w' A4' (stnCells st) ∧ (∀ a, A1' = some a ∨ A2' = some a ∨ A3' = some a ∨ A4' = some a → w.heap.size ≤ a.block) ∧ Below w.heap.size w w' :=
  own_any n long miss good fresh A1 A2 A3 A4 ps.length ss.length bs.length st.length c1 c2 c3 c4 _ _ _ _ w
    ⟨by simp, hc.r1.toV, hc.n1, by dsimp only; omega, one_ints ps⟩ ⟨by simp, hc.r2.toV, hc.n2, by dsimp only; omega, one_ints ss⟩ ⟨by simp, hc.r3.toV, hc.n3, by dsimp only; omega, one_ints bs⟩ ⟨stnCells_length st, hc.r4, hc.n4, by dsimp only; omega, stnCells_one st⟩
/-- What lies behind the making of the net: its ten cells, in block p; all pairs none, in block g. -/
def Made (w wx : World) (N : Nat) (n : Int) (A1 : Option Addr) (c1 : Nat) (ps : List Int) (A2 : Option Addr) (c2 : Nat) (ss : List Int) (long : Int) (A3 : Option Addr) (c3 : Nat) (bs : List Int) (A4 : Option Addr) (c4 : Nat) (st : List Stn) (miss good fresh : Int) (s7 : Value) : Prop :=
  ∃ p g A1' A2' A3' A4', s7 = .pointer (some ⟨p, 0, none⟩) ∧
    Blk wx p 71 #[.int .i64 n, .slice A1' ps.length ps.length, .slice A2' ss.length ss.length, .int .i64 long, .slice A3' bs.length bs.length, .slice A4' st.length st.length, .int .i64 miss, .int .i64 good, .int .i64 fresh, .slice (some ⟨g, 0, none⟩) N N] ∧
    RdV wx A1' (ps.map (Value.int .i64)) ∧ RdV wx A2' (ss.map (Value.int .i64)) ∧ RdV wx A3' (bs.map (Value.int .i64)) ∧ RdV wx A4' (stnCells st) ∧
    ((ps.map (Value.int .i64) ≠ [] → ∀ a, A1' = some a → a.block ≠ g) ∧ (ss.map (Value.int .i64) ≠ [] → ∀ a, A2' = some a → a.block ≠ g) ∧ (bs.map (Value.int .i64) ≠ [] → ∀ a, A3' = some a → a.block ≠ g) ∧ (stnCells st ≠ [] → ∀ a, A4' = some a → a.block ≠ g)) ∧
    Blk wx g 3 (List.replicate N (.int .i64 (-1))).toArray ∧ p ≠ g ∧ w.heap.size ≤ p ∧ w.heap.size < g ∧ Blk wx w.heap.size 25 #[.int .i64 n, .slice A1 ps.length c1, .slice A2 ss.length c2, .int .i64 long, .slice A3 bs.length c3, .slice A4 st.length c4, .int .i64 miss, .int .i64 good, .int .i64 fresh] ∧ Below w.heap.size w wx

def ruleCells : Array Value := ((List.range 10).map fun k => Value.func (.func (ruleF k)) #[] #[]).toArray

set_option maxHeartbeats 1000000 in
theorem rules_any (w : World) : Calls Tryd.prog 17 #[] w fun e w' => e = .returned (.slice (some ⟨w.heap.size, 0, none⟩) 10 10) ∧ w.alloc (.cells ruleCells 67) = w' := by
  go_enter Tryd.func17, Tryd.ntmps17
  go_wp2
  go_ret
  exact ⟨rfl, rfl⟩

set_option maxRecDepth 100000 in
set_option maxHeartbeats 4000000 in
theorem new_bad (n : Int) (A1 : Option Addr) (c1 : Nat) (ps : List Int) (A2 : Option Addr) (c2 : Nat) (ss : List Int) (long : Int) (A3 : Option Addr) (c3 : Nat) (bs : List Int) (A4 : Option Addr) (c4 : Nat) (st : List Stn) (miss good fresh : Int) (w : World) (hc : CfgIn w A1 ps A2 ss A3 bs A4 st) (hb : newE ⟨n, ps, ss, long, bs, st, miss, good, fresh⟩ ≠ 0) :
    Calls Tryd.prog 7 #[(.agg #[.int .i64 n, .slice A1 ps.length c1, .slice A2 ss.length c2, .int .i64 long, .slice A3 bs.length c3, .slice A4 st.length c4, .int .i64 miss, .int .i64 good, .int .i64 fresh])] w fun e w' => e = .returned (.tuple #[.pointer none, .int .i64 (newE ⟨n, ps, ss, long, bs, st, miss, good, fresh⟩)]) ∧ Below w.heap.size w w' := by
  have HBAD := Lib.hid hb
  have HC := Lib.hid hc
  clear hb hc
  go_enter Tryd.func7, Tryd.ntmps7
  go_wp2_with (go_at_call 17; refine (rules_any _).mono ?_; rintro e w' ⟨rfl, rfl⟩)
  refine gen_wp (fun W => Blk W w.heap.size 25 #[.int .i64 n, .slice A1 ps.length c1, .slice A2 ss.length c2, .int .i64 long, .slice A3 bs.length c3, .slice A4 st.length c4, .int .i64 miss, .int .i64 good, .int .i64 fresh] ∧ Blk W (w.heap.size + 1) 67 ruleCells ∧ Below w.heap.size w W) ⟨(Blk.new_ w _ _ rfl).alloc _, Blk.new_ (w.alloc _) _ _ (by simp), ((Below.refl _ w).alloc (Nat.le_refl _) _).alloc (by simp) _⟩ ?_
  rintro W ⟨k0, k1, hb⟩
  have K0 := Lib.hid k0
  have K1 := Lib.hid k1
  have HB := Lib.hid hb
  have HCW := Lib.hid (HC.out.below hb)
  clear k0 k1 hb
  go_loopw [5, 6, 12] (fun _ _ i wr => ∃ k : Nat, k ≤ 10 ∧ i = .int .i64 k ∧ Below W.heap.size W wr ∧ Hid (∀ j, j < k → ruleE ⟨n, ps, ss, long, bs, st, miss, good, fresh⟩ j = 0)) (fun _ _ i _ => 10 - (intOf i).toNat)
  case atStart => exact ⟨0, Nat.zero_le _, rfl, Below.refl _ _, fun j hj => by omega⟩
  case round =>
    obtain ⟨k, hk, rfl, hnx, HF⟩ := hrel
    have HN := Lib.hid hnx
    clear hnx
    by_cases hlt : k < 10
    · have hcell : wr.cell? ⟨w.heap.size + 1, k, none⟩ = some (.func (.func (ruleF k)) #[] #[]) := by
        rw [(K1.out.below HN.out).cell k]
        simp [ruleCells, hlt]
      obtain ⟨g, hg⟩ : ∃ g, ruleF k = g := ⟨_, rfl⟩
      have eg := rule_enters k hlt
      rw [hg] at hcell eg
      obtain ⟨q0, q1, q2, q3, q4, q5, q6, q7, q8⟩ := box9 (K0.out.below HN.out)
      have hsz : w.heap.size + 1 < wr.heap.size := (K1.out.below HN.out).lt
      have hsz0 : w.heap.size < wr.heap.size := (K0.out.below HN.out).lt
      have hlt' : (k : Int) < 10 := by omega
      have hR := rule_any n A1 c1 ps A2 c2 ss long A3 c3 bs A4 c4 st miss good fresh (wr.alloc (.cells #[.func (.func g) #[] #[]] 67)) ((HCW.out.below HN.out).below ((Below.refl _ _).alloc (Nat.le_refl _) _)) k hlt HF.out
      rw [hg] at hR
      obtain ⟨r, hr⟩ : ∃ r, ruleE ⟨n, ps, ss, long, bs, st, miss, good, fresh⟩ k = r := ⟨_, rfl⟩
      rw [hr] at hR
      have HR := Lib.hid hR
      have HE := Lib.hid hr
      have HG := Lib.hid hg
      clear hR hr hg
      cases hz : (r != 0)
      · have hz' : r = 0 := by simpa using hz
        have HZ := Lib.hid hz'
        clear hz'
        go_wp2_with (go_at_fn g; refine (HR.out).mono ?_; rintro e w2 ⟨rfl, hb2⟩)
        go_roundw
        case rel => exact ⟨k + 1, by omega, by go_num, (HN.out.alloc HN.out.size _).trans (hb2.mono (by have := HN.out.size; simp; omega)), fun j hj => by
          rcases Nat.lt_succ_iff_lt_or_eq.1 hj with h | rfl
          · exact HF.out j h
          · rw [HE.out]; exact HZ.out⟩
        case measure => simp [intOf]; omega
      · have hz' : r ≠ 0 := by simpa using hz
        have HZ := Lib.hid hz'
        clear hz'
        go_wp2_with (go_at_fn g; refine (HR.out).mono ?_; rintro e w2 ⟨rfl, hb2⟩)
        go_ret2
        refine ⟨?_, Below.then_ HB.out ((HN.out.alloc HN.out.size _).trans (hb2.mono (by have := HN.out.size; simp; omega)))⟩
        rw [newE_at hlt HF.out (by rw [HE.out]; exact HZ.out), HE.out]
        rfl
    · exact absurd (newE_ok fun j hj => HF.out j (by omega)) HBAD.out

end Go.Proofs.YtbmbaalidehoeaaDoor.K
