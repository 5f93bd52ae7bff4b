/- members.Less: which of two views stands ahead. -/
import Derived.Test.YtbmbaalidehoeaaDoorCollect
namespace Go.Proofs.YtbmbaalidehoeaaDoor.K
open Go.RowKit Go.Shelf

attribute [local go_sem] Oper.semAt_some

theorem collect_row (Bs : Nat) (cs : Array Value) (hv : VwOk cs) (w : World) (hBs : Blk w Bs 32 cs) :
    Calls Tryd.prog 30 #[.func (.func 65) #[] #[.pointer (some ⟨Bs, 0, none⟩)]] w fun e w' => ∃ g cap cur, e = .returned (.slice (some ⟨g, 0, none⟩) 42 cap) ∧ w.heap.size ≤ g ∧ Blk w' g 3 cur ∧ (42 ≤ cap ∧ cap ≤ 9223372036854775807) ∧
      (∀ j, j < 42 → cur[j]? = some (.int .i64 ((numsV cs)[j]?.getD 0))) ∧ Below w.heap.size w w' := by
  refine (collect_nums Bs cs hv w hBs).mono ?_
  rintro e w' ⟨v, rfl, ⟨hl, h⟩, hb⟩
  have hN := numsV_length cs
  rcases h with ⟨_, h0⟩ | ⟨g, cap, cur, rfl, hg, hblk, hc1, hc2, hsz, htk⟩
  · omega
  · rw [hN] at hc1 htk ⊢
    refine ⟨g, cap, cur, rfl, hg, hblk, ⟨hc1, hc2⟩, fun j hj => ?_, hb⟩
    have h1 : (cur.toList.take (42 * 1))[j]? = ((numsV cs).map (Value.int .i64))[j]? := by rw [htk]
    rw [List.getElem?_take_of_lt (by omega), Array.getElem?_toList] at h1
    rw [h1, List.getElem?_map, List.getElem?_eq_getElem (by omega)]
    rfl

theorem lessL_self (l : List Int) : lessL l l = false := by
  induction l with
  | nil => rfl
  | cons x l ih => rw [lessL, if_pos rfl, ih]
theorem lessL_at (q : List Int) {x y : Int} (h : x ≠ y) (s t : List Int) : lessL (q ++ ([x] ++ s)) (q ++ y :: t) = decide (x < y) := by
  induction q with
  | nil => show lessL (x :: s) (y :: t) = _; rw [lessL, if_neg h]
  | cons z q ih => show lessL (z :: (q ++ ([x] ++ s))) (z :: (q ++ y :: t)) = _; rw [lessL, if_pos rfl, ih]
/-- Between two rounds of Less: all numbers that have come are the other view's; the box holds the rest of these. -/
def LessI (b : Array Value) (g L R : Nat) (cur : Array Value) (w : World) (pre : List Int) (W : World) : Prop :=
  pre = (numsV b).take pre.length ∧ pre.length ≤ 42 ∧ (∃ o m c, Boxed W L 22 (.slice (some ⟨g, o, none⟩) m c) ∧ m + pre.length = 42 ∧ m ≤ c ∧ (0 < m → o = pre.length)) ∧ Blk W g 3 cur ∧ Boxed W R 4 (.bool false) ∧ Below w.heap.size w W
/-- A round of Less has returned: at the first number that is not the other view's. -/
def LessX (b : Array Value) (R : Nat) (w : World) (c : Code) (pre : List Int) (W : World) : Prop :=
  c = .ret ∧ (∃ q x, pre = q ++ [x] ∧ q = (numsV b).take q.length ∧ q.length < 42 ∧ x ≠ (numsV b)[q.length]?.getD 0 ∧ Boxed W R 4 (.bool (decide (x < (numsV b)[q.length]?.getD 0)))) ∧ Below w.heap.size w W
theorem boxed_own {W W' : World} {B : Nat} {t : TypeId} {v : Value} {row : Option Nat} (h : Boxed W B t v) (hg : W.grownBy W' row) (hr : ∀ r, row = some r → ∃ o : Obj, W.heap[r]? = some o ∧ o.isCells = false) : Boxed W' B t v := (grownBy_keeps_cells hg hr h rfl).trans h
theorem blk_own {W W' : World} {B : Nat} {t : TypeId} {v : Array Value} {row : Option Nat} (h : Blk W B t v) (hg : W.grownBy W' row) (hr : ∀ r, row = some r → ∃ o : Obj, W.heap[r]? = some o ∧ o.isCells = false) : Blk W' B t v := (grownBy_keeps_cells hg hr h rfl).trans h
theorem below_own {w W W' : World} {B : Nat} {row : Option Nat} (hB : w.heap.size ≤ B) (h : Below w.heap.size w W) (hg : W.grownBy W' row) (hr : ∀ r, row = some r → B ≤ r) : Below w.heap.size w W' :=
  h.grown hg h.size fun j e => by have := hr j e; omega
theorem lessI_own (b : Array Value) (g L R : Nat) (cur : Array Value) (w : World) {B : Nat} (hB : w.heap.size ≤ B) : OwnFrom B (LessI b g L R cur w) := fun s W W' row h hg hr => by
  obtain ⟨h1, h2, ⟨o, m, c, h3, h4, h5⟩, h6, h7, h8⟩ := h
  have hr1 : ∀ r, row = some r → ∃ o : Obj, W.heap[r]? = some o ∧ o.isCells = false := fun r e => (hr r e).2
  exact ⟨h1, h2, ⟨o, m, c, boxed_own h3 hg hr1, h4, h5⟩, blk_own h6 hg hr1, boxed_own h7 hg hr1, below_own hB h8 hg fun r e => (hr r e).1⟩
theorem lessX_own (b : Array Value) (R : Nat) (w : World) {B : Nat} (hB : w.heap.size ≤ B) (c : Code) : OwnFrom B (LessX b R w c) := fun s W W' row h hg hr => by
  obtain ⟨h1, ⟨q, x, h2, h3, h4, h5, h6⟩, h8⟩ := h
  have hr1 : ∀ r, row = some r → ∃ o : Obj, W.heap[r]? = some o ∧ o.isCells = false := fun r e => (hr r e).2
  exact ⟨h1, ⟨q, x, h2, h3, h4, h5, boxed_own h6 hg hr1⟩, below_own hB h8 hg fun r e => (hr r e).1⟩

set_option maxRecDepth 100000 in
set_option maxHeartbeats 4000000 in
theorem less_in (a b : Array Value) (ha : VwOk a) (hb : VwOk b) (w : World) :
    CallsIn Fence.wide 3 Tryd.prog 12 #[.agg a, .agg b] w fun e w' => e = .returned (.bool (lessB a b)) ∧ Below w.heap.size w w' := by
  have HA := Lib.hid ha
  have HB := Lib.hid hb
  refine callsIn_of_wp_marks Tryd.func12 rfl trivial ?_ rfl
  simp only [Tryd.ntmps12, List.size_toArray, List.length_cons, List.length_nil, Nat.reduceAdd, Nat.reduceSub, Array.replicate_succ, Array.replicate_zero, List.push_toArray, List.append_toArray, List.nil_append, List.cons_append]
  refine (wpIn_wide).2 ?_
  clear ha hb
  go_upto_region 1 with fail
  refine gen_wp (fun U => Hid (Blk U w.heap.size 32 a) ∧ Hid (Blk U (w.heap.size + 1) 32 b) ∧ Hid (Boxed U (w.heap.size + 1 + 1) 4 (.bool false)) ∧ Hid (Below w.heap.size w U)) ⟨?_, ?_, ?_, ?_⟩ ?_
  · exact Lib.hid (((Blk.new_ w _ _ rfl).alloc _).alloc _)
  · exact Lib.hid ((Blk.new_ _ _ _ (by simp)).alloc _)
  · refine Lib.hid ?_
    have := Boxed.new ((w.alloc (.cells a 32)).alloc (.cells b 32)) 4 (.bool false)
    simpa using this
  · refine Lib.hid (((Below.refl _ _).alloc ?_ _ |>.alloc ?_ _).alloc ?_ _) <;> simp <;> omega
  rintro U ⟨KA, KB, KR, HBU⟩
  have NB := Lib.hid fun (W : World) => numbers_any b W
  have NA := Lib.hid fun (W : World) => numbers_any a W
  have CB := Lib.hid fun (Bs : Nat) (W : World) (h : Blk W Bs 32 b) => collect_row Bs b HB.out W h
  go_upto_region 2 with (first
    | (refine wpList_load_at rfl 32 (.tmp 3) rfl (w.heap.size + 1) 0 rfl b _ KB.out.range Tryd.underlying32 rfl HB.out.inf ?_)
    | (go_at_call 31; refine (NB.out _).mono ?_; rintro e w1 ⟨rfl, rfl⟩)
    | (go_at_call 30; refine (CB.out _ _ (Blk.new_ _ _ _ rfl)).mono ?_; rintro e W2 ⟨g, cap, cur, rfl, hg, hblk, hcap, hcur, hbel⟩))
  have HG := Lib.hid hblk
  have HC := Lib.hid hcur
  have HBL := Lib.hid hbel
  clear hblk hcur hbel
  have lU : w.heap.size + 1 + 1 < U.heap.size := KR.out.lt
  have aU : (U.alloc (.cells b 32)).heap.size = U.heap.size + 1 := by simp
  have lW : U.heap.size + 1 ≤ W2.heap.size := by have := HBL.out.size; omega
  have lg : g < W2.heap.size := HG.out.lt
  rw [aU] at hg
  have old : ∀ k, k < U.heap.size → (W2.alloc (.cells #[Value.slice (some ⟨g, 0, none⟩) 42 cap] 22)).heap[k]? = U.heap[k]? := fun k hk =>
    ((alloc_old W2 _ (by omega)).trans (HBL.out.block k (by omega))).trans (alloc_old U _ hk)
  refine gen_wp (fun V => Hid (Blk V w.heap.size 32 a) ∧ Hid (Boxed V (w.heap.size + 1 + 1) 4 (.bool false)) ∧ Hid (Blk V g 3 cur) ∧ Hid (Boxed V W2.heap.size 22 (.slice (some ⟨g, 0, none⟩) 42 cap)) ∧ Hid (Below w.heap.size w V))
    ⟨Lib.hid ((old _ (by omega)).trans KA.out), Lib.hid ((old _ lU).trans KR.out), Lib.hid ((alloc_old W2 _ lg).trans HG.out), Lib.hid (Boxed.new _ _ _), Lib.hid ?_⟩ ?_
  · exact Below.allocW (HBU.out.trans (((ba U _).trans (HBL.out.mono (by simp))).mono HBU.out.size)) _
  obtain ⟨L, eL⟩ : ∃ L, W2.heap.size = L := ⟨_, rfl⟩
  rw [eL] at lW lg ⊢
  obtain ⟨u, eu⟩ : ∃ u, U.heap.size = u := ⟨_, rfl⟩
  rw [eu] at lU lW hg ⊢
  clear old HBL HG KA KB KR HBU CB NB aU
  rintro V ⟨KA, KR, KG, KL, HBV⟩
  clear eL eu
  go_wp2_with (first
    | (refine wpList_load_at rfl 32 (.tmp 2) rfl w.heap.size 0 rfl a _ KA.out.range Tryd.underlying32 rfl HA.out.inf ?_)
    | (go_at_call 31; refine (NA.out _).mono ?_; rintro e w1 ⟨rfl, rfl⟩))
  have lL : L < V.heap.size := KL.out.lt
  have lG : g < V.heap.size := KG.out.lt
  have lR : w.heap.size + 1 + 1 < V.heap.size := KR.out.lt
  have sV : (V.alloc (.cells a 32)).heap.size = V.heap.size + 1 := by simp
  have KL1 := Lib.hid ((alloc_old V (.cells a 32) lL).trans KL.out)
  have KG1 := Lib.hid ((alloc_old V (.cells a 32) lG).trans KG.out)
  have KR1 := Lib.hid ((alloc_old V (.cells a 32) lR).trans KR.out)
  have KA1 := Lib.hid (Blk.new_ V 32 a rfl)
  have HB1 := Lib.hid (Below.allocW HBV.out (.cells a 32))
  clear KA KR KG KL HBV NA
  generalize hV1 : V.alloc (.cells a 32) = V1 at *
  have hbp : boxPtr V1 L = some g := boxPtr_boxed (show Boxed V1 L 22 _ from KL1.out)
  have HST := Lib.hid (numbers_stops 2 (by omega) V.heap.size L a HA.out V1 KA1.out (by omega) (by omega) (by rw [hbp]; intro e; cases e; omega) (fun p h => by rw [hbp] at h; cases h; omega))
  refine (wpIn_wide (n := 3)).1 ?_
  refine wpIn_rangeFunc_ownG (n := 3) rfl (by omega) (gf := 65) (lb := #[.pointer (some ⟨V.heap.size, 0, none⟩)]) rfl trivial (enters_of Tryd.func65 (by kernel_rfl) rfl)
    HST.out (fun h k => h.trans k) (fun W l o o' hl ho hc _ => KBox.put (by omega) o' ho hc) (Below.refl _ _) (fun _ => rfl)
    (LessI b g L (w.heap.size + 1 + 1) cur w) (LessX b (w.heap.size + 1 + 1) w) (lessI_own b g L _ cur w (by have := HB1.out.size; omega)) (lessX_own b _ w (by have := HB1.out.size; omega))
    ⟨by simp, by simp, ⟨0, 42, cap, KL1.out, by simp, hcap.1, fun _ => rfl⟩, KG1.out, KR1.out, HB1.out⟩
    (fun x => { tmps := #[.agg a, .agg b, .pointer (some ⟨w.heap.size, 0, none⟩), .pointer (some ⟨w.heap.size + 1, 0, none⟩), .pointer (some ⟨w.heap.size + 1 + 1, 0, none⟩), .pointer (some ⟨L, 0, none⟩), .int .i64 x, undef, .agg b, .func (.func 65) #[] #[.pointer (some ⟨u, 0, none⟩)], .slice (some ⟨g, 0, none⟩) 42 cap, .agg a, .func (.func 65) #[] #[.pointer (some ⟨V.heap.size, 0, none⟩)], .int .i64 x, undef, undef, undef, undef, undef, undef, undef, undef, undef, undef, undef], defers := [] }) ?assign ?body ?done ?stop
  case assign =>
    intro l x W K hK
    gi_wp2
    exact hK
  case body =>
    rintro l pre x W ⟨hp, hle, ⟨o, m, c, hL, hm, mc, ho⟩, hG, hR, hB⟩ hlt
    obtain ⟨k, hk⟩ : ∃ k, pre.length = k := ⟨_, rfl⟩
    rw [hk] at hp hm ho hlt
    obtain rfl : o = k := ho (by omega)
    obtain ⟨y, hy⟩ : ∃ y, (numsV b)[o]?.getD 0 = y := ⟨_, rfl⟩
    have hcL := hL.cell
    have hfL := hL.frozen
    have hcR := hR.cell
    have hfR := hR.frozen
    have hcG : W.cell? ⟨g, o, none⟩ = some (.int .i64 y) := by rw [← hy]; exact (hG.cell o).trans (HC.out o hlt)
    have m0 : 0 < m := by omega
    have m1 : 1 ≤ m := by omega
    have HP := Lib.hid hp
    have HLB := Lib.hid hL
    have HGB := Lib.hid hG
    have HRB := Lib.hid hR
    have HBB := Lib.hid hB
    have HY := Lib.hid hy
    clear hp hL hG hR hB hy
    have hE := Lib.hid (show (numsV b)[o]? = some y by
      have : o < (numsV b).length := by rw [numsV_length]; exact hlt
      rw [← HY.out, List.getElem?_eq_getElem this]; rfl)
    have gL : g ≠ L := by omega
    have rL : w.heap.size + 1 + 1 ≠ L := by omega
    clear ho
    by_cases hxy : x = y
    · subst hxy
      have fin : ∀ v' : Value, v'.ownBlock = some g → (∃ o' m' c', v' = .slice (some ⟨g, o', none⟩) m' c' ∧ m' + (o + 1) = 42 ∧ m' ≤ c' ∧ (0 < m' → o' = o + 1)) →
          KBox L W (W.setCell ⟨L, 0, none⟩ v') ∧ LessI b g L (w.heap.size + 1 + 1) cur w (pre ++ [x]) (W.setCell ⟨L, 0, none⟩ v') := fun v' h1 ⟨o', m', c', h2, h3, h4, h5⟩ => by
        have hl : (pre ++ [x]).length = o + 1 := by simp [hk]
        refine ⟨KBox.set HLB.out h1, ?_, by rw [hl]; omega, ⟨o', m', c', by rw [← h2]; exact HLB.out.set v', by rw [hl]; exact h3, h4, by rw [hl]; exact h5⟩,
          (Below.heap_setCell W ⟨L, 0, none⟩ v' g gL).trans HGB.out, (Below.heap_setCell W ⟨L, 0, none⟩ v' _ rL).trans HRB.out, HBB.out.setCell (p := ⟨L, 0, none⟩) (by show w.heap.size ≤ L; omega) v'⟩
        rw [hl, take_more hE.out, ← HP.out]
      have FIN := Lib.hid fin
      clear fin
      gi_wp2
      · exact ⟨(KeepsOthers.setCell _ _ _).from _, FIN.out _ rfl ⟨_, _, _, rfl, by omega, by omega, fun h => by omega⟩⟩
      · exact ⟨(KeepsOthers.setCell _ _ _).from _, FIN.out _ rfl ⟨_, _, _, rfl, by omega, by omega, fun h => by omega⟩⟩
    · have hne : (x == y) = false := by simpa using hxy
      gi_wp2
      refine ⟨(KeepsOthers.setCell _ _ _).from _, rfl, ⟨pre, x, rfl, by rw [hk]; exact HP.out, by omega, ?_, ?_⟩, HBB.out.setCell (p := ⟨w.heap.size + 1 + 1, 0, none⟩) (by show w.heap.size ≤ w.heap.size + 1 + 1; omega) _⟩
      · rw [hk, HY.out]; exact hxy
      · rw [hk, HY.out]; exact HRB.out.set _
  case done =>
    rintro D xs W hD rfl ⟨hp, hle, _, _, hR, hB⟩ hK
    have hcR := hR.cell
    have hfR := hR.frozen
    have hless := Lib.hid (show lessB a b = false by
      have e : numsV a = numsV b := by rw [hp, numsV_length]; exact List.take_of_length_le (by rw [numsV_length]; omega)
      unfold lessB; rw [e]; exact lessL_self _)
    have HRB := Lib.hid hR
    have HBB := Lib.hid hB
    have HK := Lib.hid hK
    clear hp hR hB hK
    go_wp2
    have hK' := (KeepsOthers.setCell W ⟨w.heap.size + 1 + 1, 0, none⟩ (.bool false)).same D _ HK.out rfl
    have hRf := HRB.out.set (.bool false)
    refine ⟨by simp, .inl ⟨_, _, rfl, run_takeDeferred hK', ?_⟩⟩
    have hc5 := (boxed_own hRf (grownBy_putObj' _ D (.deferred none)) (fun r e => by cases e; exact ⟨_, hK', rfl⟩)).cell
    refine ⟨.bool false, ?_, by rw [hless.out], ?_⟩
    · simp [results, Tryd.f12, go_sem, hc5]
    · exact below_own (B := V1.heap.size) (by have := HB1.out.size; omega) (HBB.out.setCell (p := ⟨w.heap.size + 1 + 1, 0, none⟩) (by show w.heap.size ≤ w.heap.size + 1 + 1; omega) _) (grownBy_putObj' _ D _) (fun r e => by cases e; exact hD)
  case stop =>
    rintro D c pre W hD hS ⟨rfl, ⟨q, x, rfl, hq, hlt, hne, hR⟩, hB⟩ hK
    have hless := Lib.hid (show lessB a b = decide (x < (numsV b)[q.length]?.getD 0) by
      obtain ⟨s, hs⟩ := hS
      obtain ⟨y, hy⟩ : ∃ y, (numsV b)[q.length]?.getD 0 = y := ⟨_, rfl⟩
      rw [hy] at hne ⊢
      have hlt' : q.length < (numsV b).length := by rw [numsV_length]; exact hlt
      have e2 : numsV b = q ++ y :: (numsV b).drop (q.length + 1) := by
        have h1 : y = (numsV b)[q.length] := by rw [← hy, List.getElem?_eq_getElem hlt']; rfl
        rw [h1, ← List.drop_eq_getElem_cons hlt']
        exact (List.take_append_drop q.length (numsV b)).symm.trans (by rw [← hq])
      unfold lessB
      rw [← hs, e2, List.append_assoc]
      exact lessL_at q hne _ _)
    have HRB := Lib.hid hR
    have HBB := Lib.hid hB
    have HK := Lib.hid hK
    clear hq hne hR hB hK hS
    gi_wp2
    refine ⟨by simp, .inl ⟨_, _, rfl, run_takeDeferred HK.out, ?_⟩⟩
    have hc5 := (boxed_own HRB.out (grownBy_putObj' _ D (.deferred none)) (fun r e => by cases e; exact ⟨_, HK.out, rfl⟩)).cell
    refine ⟨_, ?_, by rw [hless.out], ?_⟩
    · simp [results, Tryd.f12, go_sem, hc5]
    · exact below_own (B := V1.heap.size) (by have := HB1.out.size; omega) HBB.out (grownBy_putObj' _ D _) (fun r e => by cases e; exact hD)
theorem vless_any (a b : Array Value) (ha : VwOk a) (hb : VwOk b) (w : World) :
    Calls Tryd.prog 12 #[.agg a, .agg b] w fun e w' => e = .returned (.bool (lessB a b)) ∧ Below w.heap.size w w' := callsIn_wide.1 (less_in a b ha hb w)
end Go.Proofs.YtbmbaalidehoeaaDoor.K
