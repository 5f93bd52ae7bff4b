/- slices.Collect of members.numbers: a view's numbers in a slice of the call's own. -/
import Derived.Test.YtbmbaalidehoeaaDoorNums
import Derived.Test.YtbmbaalidehoeaaDoorSingle
import Derived.Maps.OwnIn
namespace Go.Proofs.YtbmbaalidehoeaaDoor.K
open Go.RowKit Go.Shelf

attribute [local go_sem] Oper.semAt_some

set_option maxRecDepth 100000 in
set_option maxHeartbeats 2000000 in
/-- slices.AppendSeq(nil, seq): it owns what the iterator gives. -/
theorem appendSeq_box (F : Fence) (n : Nat) (h11 : F.fn 64) (hro : F.round = none) (hn : 2 ≤ n) (g : Nat) (lb : Array Value) (hFg : F.fn g) (eg : ∀ args w, (callFunc g args).run Tryd.prog w = .ok (.enter g args) w)
    (zs : List Int) (hreach : zs.length ≤ 17592186044416) (w : World)
    (hseq : SeqStopsK F (n - 1) Tryd.prog g lb (fun x : Int => #[Value.int .i64 x]) (KBox w.heap.size) (fun ys => ys = zs) (fun pre => pre <+: zs) zs.length (w.alloc (.cells #[.slice none 0 0] 22))) :
    CallsIn F n Tryd.prog 64 #[.slice none 0 0, .func (.func g) #[] lb] w fun e w' => ∃ v, e = .returned v ∧ w'.ownsRow w.heap.size 3 1 v zs.length (zs.map (Value.int .i64)) ∧ Below w.heap.size w w' := by
  have h1 : 1 ≤ n := by omega
  obtain ⟨i0, hi, hz0, hz1, hz2⟩ := info_parts info_int
  refine callsIn_of_wp_marks Tryd.func64 rfl h11 ?_ hro
  simp only [Tryd.ntmps64, List.size_toArray, List.length_cons, List.length_nil, Nat.reduceAdd, Nat.reduceSub, Array.replicate_succ, Array.replicate_zero, List.push_toArray, List.append_toArray, List.nil_append, List.cons_append]
  gi_wp2
  have bO := Boxed.new w 22 (.slice none 0 0)
  have hB0 : Below w.heap.size w (w.alloc (.cells #[.slice none 0 0] 22)) := (Below.refl _ w).alloc (Nat.le_refl _) _
  refine wpIn_rangeFunc_ownG hro h1 (gf := g) (lb := lb) rfl hFg eg
    hseq (fun h k => h.trans k) (fun W l o o' hl ho hc _ => KBox.put (by simp at hl; omega) o' ho hc) (Below.refl _ _) (fun _ => rfl)
    (fun (pre : List Int) W => (∃ v, Boxed W w.heap.size 22 v ∧ W.ownsRow w.heap.size 3 1 v pre.length (pre.map (Value.int .i64)) ∧ True) ∧ Below w.heap.size w W)
    (fun _ _ _ => False)
    (OwnFrom.and (Own.from (holdsRow_own w.heap.size w.heap.size 22 3 1 (fun (pre : List Int) => pre.length) (fun (pre : List Int) => pre.map (Value.int .i64)) (fun _ _ => True)) _) (ownFrom_below (Nat.le_refl _) (by simp)))
    (fun _ _ _ _ _ hs _ _ => hs)
    ⟨⟨_, bO, World.ownsRow_nil _ _ _ _, trivial⟩, hB0⟩
    (fun x => { tmps := #[.slice none 0 0, .func (.func g) #[] lb, .pointer (some ⟨w.heap.size, 0, none⟩), undef, .slice none 0 0, .int .i64 x, .func (.func g) #[] lb, .int .i64 x, undef, undef, undef, undef, undef], defers := [] }) ?assign ?body ?done ?stop
  case assign =>
    intro l x W K hK
    gi_wp2
    exact hK
  case body =>
    rintro l pre x W ⟨⟨v, hv, hrow, _⟩, hB⟩ hlt
    have hc := hv.cell
    gi_wp2_with (gi_at_builtin; refine wpListIn_append_own_at _ rfl _ _ 22 rfl w.heap.size 3 i0 (.int .i64 0) 1 8 Tryd.underlying22 hi hz0 hz1 hz2 rfl (by decide) _ _ _ rfl (hrow.alloc _) ⟨W.heap.size, 0, none⟩ 1 1 [.int .i64 x] rfl rfl (cell_one_new _ _ _) (by simp [Value.oneCell']) (by unfold maxLen; omega) (by omega) (by have := hB.size; simp; omega) ?_; intro v' w1 hown' hgrow _ hptr; have hkb := Lib.hid (KBox.appended hv (by decide) hrow hown' hgrow hptr); obtain ⟨g', cap', rfl⟩ := ownsRow_succ hown'; obtain ⟨hv1, hv2, hr2, hk2, hb2⟩ := hv.appended (by decide) hrow hB.size (Nat.le_refl _) hown' hgrow; have hc1 := hv1.cell; have hf1 := hv1.frozen)
    exact ⟨hk2.from _, hkb.out, ⟨_, hv2, by simpa using hr2, trivial⟩, hB.trans hb2⟩
  case done =>
    rintro D ys W hD rfl ⟨⟨v, hv, hrow, _⟩, hB⟩ hK
    have hc := hv.cell
    gi_wp2
    refine ⟨by simp, .inl ⟨_, _, rfl, run_takeDeferred hK, ?_⟩⟩
    exact ⟨_, results_tmp rfl _ _ _, v, rfl, ownsRow_putObj hrow _ hK rfl, hB.trans (belowK_b (w := w) (Nat.le_refl _) W D _ _ (by simp at hD; omega) hK rfl rfl)⟩
  case stop =>
    rintro D c pre W _ _ h _
    exact h.elim


theorem alloc_old (w : World) (o : Obj) {k : Nat} (h : k < w.heap.size) : (w.alloc o).heap[k]? = w.heap[k]? := Below.heap_alloc w o k h
theorem appendSeq_nums (Bs : Nat) (cs : Array Value) (hv : VwOk cs) (w : World) (hBs : Blk w Bs 32 cs) :
    Calls Tryd.prog 64 #[.slice none 0 0, .func (.func 65) #[] #[.pointer (some ⟨Bs, 0, none⟩)]] w fun e w' => ∃ v, e = .returned v ∧ w'.ownsRow w.heap.size 3 1 v (numsV cs).length ((numsV cs).map (Value.int .i64)) ∧ Below w.heap.size w w' := by
  have hlt : Bs < w.heap.size := (Array.getElem?_eq_some_iff.1 hBs).1
  have hp : boxPtr (w.alloc (.cells #[.slice none 0 0] 22)) w.heap.size = none := boxPtr_boxed (Boxed.new w 22 (.slice none 0 0))
  have h := numbers_stops 2 (by omega) Bs w.heap.size cs hv (w.alloc (.cells #[.slice none 0 0] 22)) ((alloc_old w _ hlt).trans hBs) (by omega) (by simp) (by rw [hp]; simp) (fun p h => by rw [hp] at h; cases h)
  rw [← numsV_length cs] at h
  exact callsIn_wide.1 (appendSeq_box Fence.wide 3 trivial rfl (by omega) 65 _ trivial (enters_of Tryd.func65 (by kernel_rfl) rfl) (numsV cs) (by rw [numsV_length]; omega) w h)

set_option maxHeartbeats 400000 in
theorem collect_nums (Bs : Nat) (cs : Array Value) (hv : VwOk cs) (w : World) (hBs : Blk w Bs 32 cs) :
    Calls Tryd.prog 30 #[.func (.func 65) #[] #[.pointer (some ⟨Bs, 0, none⟩)]] w fun e w' => ∃ v, e = .returned v ∧ w'.ownsRow w.heap.size 3 1 v (numsV cs).length ((numsV cs).map (Value.int .i64)) ∧ Below w.heap.size w w' := by
  have H := Lib.hid (appendSeq_nums Bs cs hv w hBs)
  clear hv hBs
  go_enter Tryd.func30, Tryd.ntmps30
  go_wp2_with (go_at_call 64; refine (H.out).mono ?_; rintro e w' ⟨v, rfl, hown, hbel⟩)
  go_ret
  exact ⟨v, rfl, hown, hbel⟩
end Go.Proofs.YtbmbaalidehoeaaDoor.K
