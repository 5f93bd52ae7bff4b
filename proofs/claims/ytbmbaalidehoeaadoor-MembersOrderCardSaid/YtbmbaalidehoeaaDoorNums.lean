/- members.one, numbers: a view's numbers, one behind the other, as an iterator gives them. -/
import Derived.Test.YtbmbaalidehoeaaDoorMem
import Derived.Test.YtbmbaalidehoeaaDoorIter
import Derived.Test.YtbmbaalidehoeaaDoorBox
import Derived.Deep.RegionHeld3
import Derived.RangeFuncNested
import Derived.RangeFuncCalls
namespace Go.Proofs.YtbmbaalidehoeaaDoor.K
open Go.RowKit Go.Shelf

attribute [local go_sem] Oper.semAt_some

def oneI (b : Bool) : Int := if b = true then 1 else 0
theorem one_any (b : Bool) (w : World) : Calls Tryd.prog 66 #[.bool b] w fun e w' => e = .returned (.int .i64 (oneI b)) ∧ w = w' := by
  cases b
  · go_enter Tryd.func66, Tryd.ntmps66
    go_wp2
    go_ret
    exact ⟨rfl, rfl⟩
  · go_enter Tryd.func66, Tryd.ntmps66
    go_wp2
    go_ret
    exact ⟨rfl, rfl⟩
theorem numbers_any (cs : Array Value) (w : World) :
    Calls Tryd.prog 31 #[.agg cs] w fun e w' => e = .returned (.func (.func 65) #[] #[.pointer (some ⟨w.heap.size, 0, none⟩)]) ∧ w' = w.alloc (.cells cs 32) := by
  go_enter Tryd.func31, Tryd.ntmps31
  go_wp2
  go_ret
  exact ⟨rfl, rfl⟩

/-- The five numbers of pair k. -/
def fiveV (cs : Array Value) (k : Nat) : List Int := [oneI (bl cs k), oneI (bl cs (32 + k)), nm cs (8 + k), nm cs (16 + k), nm cs (24 + k)]
theorem numAt_bl {cs : Array Value} {i : Nat} {b : Bool} (h : cs[i]? = some (.bool b)) : numAt cs i = oneI (bl cs i) := by simp [numAt, bl, h, oneI]
theorem numAt_nm {cs : Array Value} {i : Nat} {k : IntKind} {n : Int} (h : cs[i]? = some (.int k n)) : numAt cs i = nm cs i := by simp [numAt, nm, h]

theorem five_at {cs : Array Value} (hv : VwOk cs) {k m : Nat} (hk : k < 8) (hm : m < 5) : (numsV cs)[5 * k + m]? = (fiveV cs k)[m]? := by
  rw [numsV_at (by omega)]
  have e0 := hv.b k (.inl hk)
  have e1 := hv.b (32 + k) (.inr ⟨by omega, by omega⟩)
  have e2 := (hv.u8 (8 + k) (by omega) (by omega)).1
  have e3 := (hv.u8 (16 + k) (by omega) (by omega)).1
  have e4 := (hv.u16 (24 + k) (by omega) (by omega)).1
  match m, hm with
  | 0, _ => rw [show idxV (5 * k + 0) = k by unfold idxV; rw [if_pos (by omega), if_pos (by omega)]; omega, numAt_bl e0]; rfl
  | 1, _ => rw [show idxV (5 * k + 1) = 32 + k by unfold idxV; rw [if_pos (by omega), if_neg (by omega), if_pos (by omega)]; omega, numAt_bl e1]; rfl
  | 2, _ => rw [show idxV (5 * k + 2) = 8 + k by unfold idxV; rw [if_pos (by omega), if_neg (by omega), if_neg (by omega), if_pos (by omega)]; omega, numAt_nm e2]; rfl
  | 3, _ => rw [show idxV (5 * k + 3) = 16 + k by unfold idxV; rw [if_pos (by omega), if_neg (by omega), if_neg (by omega), if_neg (by omega), if_pos (by omega)]; omega, numAt_nm e3]; rfl
  | 4, _ => rw [show idxV (5 * k + 4) = 24 + k by unfold idxV; rw [if_pos (by omega), if_neg (by omega), if_neg (by omega), if_neg (by omega), if_neg (by omega)]; omega, numAt_nm e4]; rfl
theorem take_more {α : Type} {xs : List α} {k : Nat} {x : α} (h : xs[k]? = some x) : xs.take (k + 1) = xs.take k ++ [x] := by
  obtain ⟨hl, rfl⟩ := List.getElem?_eq_some_iff.1 h
  rw [List.take_succ_eq_append_getElem hl]
theorem grown_drew (w : World) (n : Nat) : w.grownBy (w.drewN n) none := ⟨rfl, rfl, rfl, Nat.le_refl _, fun _ _ _ => rfl⟩
/-- What is kept abides a new block, and draws. -/
theorem abides_alloc {β : Type} {B : Nat} {J : β → World → Prop} (hJ : AbidesFrom B J) {s : β} {W : World} (h : J s W) (n : Nat) (o : Obj) : J s ((W.alloc o).drewN n) :=
  hJ s W _ none h ((World.grownBy_alloc W o none).trans (grown_drew _ n)) (fun r e => by cases e)
theorem abides_drewN {β : Type} {B : Nat} {J : β → World → Prop} (hJ : AbidesFrom B J) {s : β} {W : World} (h : J s W) (n : Nat) : J s (W.drewN n) :=
  hJ s W _ none h (grown_drew _ n) (fun r e => by cases e)

theorem wrap8 {x : Int} (h : 0 ≤ x ∧ x < 65536) : IntKind.i64.wrap x = x := wrap_small (by omega) (by omega)
theorem five_row {cs : Array Value} {b0 b1 : Bool} {x2 x3 x4 : Int} {k m : Nat} (h : fiveV cs k = [oneI b0, oneI b1, x2, x3, x4]) (hm : m < 5) :
    (#[Value.int .i64 (oneI b0), .int .i64 (oneI b1), .int .i64 x2, .int .i64 x3, .int .i64 x4])[m]? = some (.int .i64 ((fiveV cs k)[m]?.getD 0)) := by
  rw [h]
  match m, hm with
  | 0, _ => rfl
  | 1, _ => rfl
  | 2, _ => rfl
  | 3, _ => rfl
  | 4, _ => rfl

set_option maxRecDepth 100000 in
set_option maxHeartbeats 4000000 in
theorem numbers1_in (n : Nat) (hn : 1 ≤ n) (l Bs b B : Nat) (cs : Array Value) (hv : VwOk cs) (J Jx : List Int → World → Prop) (hJ : AbidesFrom B J)
    (hY : ∀ pre x W, J pre W → pre.length < 42 → YieldAt Fence.wide (n - 1) Tryd.prog l #[.int .i64 x] W fun e W' =>
      (e = .returned (.bool true) ∧ J (pre ++ [x]) W' ∧ KBox b W W') ∨ (e = .returned (.bool false) ∧ Jx (pre ++ [x]) W'))
    (W : World) (hBs : Blk W Bs 32 cs) (hne : Bs ≠ b) (hb : b < W.heap.size) (hp : boxPtr W b ≠ some Bs) (ho : ∀ p, boxPtr W b = some p → p < W.heap.size) (h0 : J [] W) :
    CallsIn Fence.wide n Tryd.prog 65 #[.func (.yield l) #[] #[], .pointer (some ⟨Bs, 0, none⟩)] W fun e W' => (∃ v, e = .returned v) ∧
      ((∃ ys, ys = numsV cs ∧ J ys W') ∨ (∃ pre, pre <+: numsV cs ∧ Jx pre W')) := by
  have HV := Lib.hid hv
  have HY := Lib.hid hY
  have HJ := Lib.hid hJ
  have HB := Lib.hid hBs
  have HP := Lib.hid hp
  have HO := Lib.hid ho
  have HBK0 := Lib.hid (KBox.refl b W)
  have hN := numsV_length cs
  have HN := Lib.hid hN
  refine callsIn_of_wp Tryd.func65 rfl trivial ?_ rfl
  simp only [Tryd.ntmps65, List.size_toArray, List.length_cons, List.length_nil, Nat.reduceAdd, Nat.reduceSub, Array.replicate_succ, Array.replicate_zero, List.push_toArray, List.append_toArray, List.nil_append, List.cons_append]
  clear hv hY hJ hBs hp ho hN
  gi_wp2
  gi_loopw [3, 6] (fun _ i wr => ∃ k : Nat, k ≤ 8 ∧ i = .int .i64 k ∧ Hid (J ((numsV cs).take (5 * k)) wr) ∧ Hid (KBox b W wr)) (fun _ i _ => 8 - (intOf i).toNat)
  case atStart => exact ⟨0, by omega, rfl, Lib.hid h0, HBK0⟩
  case round =>
    obtain ⟨k, hk, rfl, HJK, HBK⟩ := hrel
    by_cases hlt : k < 8
    · have k0 : (0 : Int) ≤ (k : Int) := by omega
      have k1 : (k : Int) < 8 := by omega
      have kb := Lib.hid (HBK.out.cells Bs _ _ _ hne HP.out HB.out)
      obtain ⟨c1, c2, c3, c4, c5⟩ := vcells (show Blk wr Bs 32 cs from kb.out) HV.out hlt
      gi_wp2
      refine (wpIn_wide).2 ?_
      obtain ⟨b0, e0⟩ : ∃ b, bl cs k = b := ⟨_, rfl⟩
      obtain ⟨b1, e1⟩ : ∃ b, bl cs (32 + k) = b := ⟨_, rfl⟩
      obtain ⟨x2, e2⟩ : ∃ b, nm cs (8 + k) = b := ⟨_, rfl⟩
      obtain ⟨x3, e3⟩ : ∃ b, nm cs (16 + k) = b := ⟨_, rfl⟩
      obtain ⟨x4, e4⟩ : ∃ b, nm cs (24 + k) = b := ⟨_, rfl⟩
      have m2 := (HV.out.u8 (8 + k) (by omega) (by omega)).2
      have m3 := (HV.out.u8 (16 + k) (by omega) (by omega)).2
      have m4 := (HV.out.u16 (24 + k) (by omega) (by omega)).2
      have HFV := Lib.hid (show fiveV cs k = [oneI b0, oneI b1, x2, x3, x4] by unfold fiveV; rw [e0, e1, e2, e3, e4])
      rw [e0] at c1
      rw [e2] at c2 m2
      rw [e3] at c3 m3
      rw [e4] at c4 m4
      rw [e1] at c5
      clear e0 e1 e2 e3 e4
      have ON := Lib.hid one_any
      go_region_held3 (fun V => V.cell? ⟨Bs, k, none⟩ = some (.bool b0) ∧ V.cell? ⟨Bs, 8 + k, none⟩ = some (.int .u8 x2) ∧ V.cell? ⟨Bs, 16 + k, none⟩ = some (.int .u8 x3) ∧ V.cell? ⟨Bs, 24 + k, none⟩ = some (.int .u16 x4) ∧ V.cell? ⟨Bs, 32 + k, none⟩ = some (.bool b1)) (go_keep) (first | (go_at_call 66; refine (ON.out _ _).mono ?_; rintro e w' ⟨rfl, rfl⟩))
      rename_i hh
      clear hh
      rw [wrap8 (x := x2) (by omega), wrap8 (x := x3) (by omega), wrap8 m4]
      obtain ⟨U, hU⟩ : ∃ U, (wr.alloc (.cells #[Value.int .i64 (oneI b0), .int .i64 (oneI b1), .int .i64 x2, .int .i64 x3, .int .i64 x4] 3)).drew = U := ⟨_, rfl⟩
      rw [hU]
      have hbr : b < wr.heap.size := Nat.lt_of_lt_of_le hb HBK.out.size
      have KU0 : KBox b wr U := by rw [← hU]; exact (KBox.alloc hbr _).trans (KBox.drewN (by simp; omega) 1)
      have HR := Lib.hid (show Blk U wr.heap.size 3 #[Value.int .i64 (oneI b0), .int .i64 (oneI b1), .int .i64 x2, .int .i64 x3, .int .i64 x4] by rw [← hU]; exact World.alloc_heap_new wr _)
      have HJU := Lib.hid (show J ((numsV cs).take (5 * k)) U by rw [← hU]; exact abides_alloc HJ.out HJK.out 1 _)
      have hRB : wr.heap.size ≠ b := by omega
      have hUp : boxPtr U b ≠ some wr.heap.size := by
        intro e
        have h1 := boxPtr_of (W := wr) (W' := U) (b := b) (by rw [← hU]; exact Below.heap_alloc wr _ b hbr)
        have := HBK.out.ok HO.out _ (h1.symm.trans e)
        omega
      have HUP := Lib.hid hUp
      have HKU := Lib.hid (HBK.out.trans KU0)
      clear hU KU0 hUp HJK
      generalize hRR : wr.heap.size = RB at *
      gi_wp2
      gi_loopw [5, 36] (fun _ i wr => ∃ m : Nat, m ≤ 5 ∧ i = .int .i64 m ∧ Hid (J ((numsV cs).take (5 * k + m)) wr) ∧ Hid (KBox b U wr)) (fun _ i _ => 5 - (intOf i).toNat)
      case atStart => exact ⟨0, by omega, rfl, HJU, Lib.hid (KBox.refl b U)⟩
      case round =>
        obtain ⟨m, hm, rfl, HJM, HBM⟩ := hrel
        by_cases hlm : m < 5
        · have q0 : (0 : Int) ≤ (m : Int) := by omega
          have q1 : (m : Int) < 5 := by omega
          have hrow := Lib.hid (HBM.out.cells RB _ _ _ hRB HUP.out HR.out)
          have hcx : wr.cell? ⟨RB, m, none⟩ = some (.int .i64 ((fiveV cs k)[m]?.getD 0)) := ((show Blk wr RB 3 _ from hrow.out).cell m).trans (five_row HFV.out hlm)
          obtain ⟨x, hx⟩ : ∃ x, (fiveV cs k)[m]?.getD 0 = x := ⟨_, rfl⟩
          rw [hx] at hcx
          have HX := Lib.hid (show (numsV cs)[5 * k + m]? = some x by
            rw [five_at HV.out hlt hlm]
            have : m < (fiveV cs k).length := by simpa [fiveV] using hlm
            rw [← hx, List.getElem?_eq_getElem this]; rfl)
          clear hx
          obtain ⟨fn, tmps, assign, body, hy, hR⟩ := HY.out _ x wr HJM.out (by rw [List.length_take, HN.out]; omega)
          gi_wp2
          refine hR.mono ?_
          rintro e W3 (⟨rfl, hJ3, hk3⟩ | ⟨rfl, hJx3⟩)
          · have HJ3 := Lib.hid hJ3
            have HK3 := Lib.hid hk3
            clear hJ3 hk3
            gi_wp2
            go_roundw
            case rel => exact ⟨m + 1, by omega, by simp, Lib.hid (by rw [← Nat.add_assoc, take_more HX.out]; exact HJ3.out), Lib.hid (HBM.out.trans HK3.out)⟩
            case measure => simp [intOf]; omega
          · have HJ3 := Lib.hid hJx3
            clear hJx3
            gi_wp2
            refine bodyPost_ret (results_none rfl _ _ _) rfl ?_
            exact ⟨⟨_, rfl⟩, .inr ⟨_, by rw [← take_more HX.out]; exact List.take_prefix _ _, HJ3.out⟩⟩
        · obtain rfl : m = 5 := by omega
          gi_wp2
          go_roundw
          case rel => exact ⟨k + 1, by omega, by simp, Lib.hid (by rw [show 5 * (k + 1) = 5 * k + 5 by omega]; exact HJM.out), Lib.hid (HKU.out.trans HBM.out)⟩
          case measure => simp [intOf]; omega
    · obtain rfl : k = 8 := by omega
      have kb := HBK.out.cells Bs _ _ _ hne HP.out HB.out
      have g6 := HV.out.cmd
      have g7 := HV.out.mode
      have c6 : wr.cell? ⟨Bs, 40, none⟩ = some (.int .i8 (nm cs 40)) := ((show Blk wr Bs 32 cs from kb).cell 40).trans g6.1
      have c7 : wr.cell? ⟨Bs, 41, none⟩ = some (.int .u8 (nm cs 41)) := ((show Blk wr Bs 32 cs from kb).cell 41).trans g7.1
      have kb2 := Lib.hid kb
      clear kb
      obtain ⟨x6, e6⟩ : ∃ x, nm cs 40 = x := ⟨_, rfl⟩
      obtain ⟨x7, e7⟩ : ∃ x, nm cs 41 = x := ⟨_, rfl⟩
      rw [e6] at c6 g6
      rw [e7] at c7 g7
      have HX6 := Lib.hid (show (numsV cs)[40]? = some x6 by rw [numsV_at (by omega), show idxV 40 = 40 from rfl, numAt_nm g6.1, e6])
      have HX7 := Lib.hid (show (numsV cs)[41]? = some x7 by rw [numsV_at (by omega), show idxV 41 = 41 from rfl, numAt_nm g7.1, e7])
      have w6 : IntKind.i64.wrap x6 = x6 := wrap_small (by omega) (by omega)
      have w7 : IntKind.i64.wrap x7 = x7 := wrap_small (by omega) (by omega)
      obtain ⟨fn, tmps, assign, body, hy, hR⟩ := HY.out _ x6 wr HJK.out (by rw [List.length_take, HN.out]; omega)
      clear e6 e7 g6 g7
      gi_wp2
      refine hR.mono ?_
      rintro e W3 (⟨rfl, hJ3, hk3⟩ | ⟨rfl, hJx3⟩)
      · have c7' : W3.cell? ⟨Bs, 41, none⟩ = some (.int .u8 x7) := by
          have k3 := (HBK.out.trans hk3).cells Bs _ _ _ hne HP.out HB.out
          have e1 : W3.heap[Bs]? = wr.heap[Bs]? := k3.trans kb2.out.symm
          exact (World.cell?_of_block (a := ⟨Bs, 41, none⟩) e1).trans c7
        obtain ⟨fn, tmps, assign, body, hy, hR⟩ := HY.out _ x7 W3 hJ3 (by rw [List.length_append, List.length_take, HN.out]; simp)
        clear hJ3 hk3
        gi_wp2
        refine hR.mono ?_
        rintro e W4 (⟨rfl, hJ4, hk4⟩ | ⟨rfl, hJx4⟩)
        · have HJ4 := Lib.hid hJ4
          clear hJ4 hk4
          gi_wp2
          go_end0
          refine ⟨⟨_, rfl⟩, .inl ⟨_, ?_, HJ4.out⟩⟩
          rw [← take_more HX6.out, ← take_more HX7.out, List.take_of_length_le (by rw [HN.out]; omega)]
        · have HJ4 := Lib.hid hJx4
          clear hJx4
          gi_wp2
          go_end0
          refine ⟨⟨_, rfl⟩, .inr ⟨_, ?_, HJ4.out⟩⟩
          rw [← take_more HX6.out, ← take_more HX7.out]
          exact List.take_prefix _ _
      · have HJ3 := Lib.hid hJx3
        clear hJx3
        gi_wp2
        go_end0
        refine ⟨⟨_, rfl⟩, .inr ⟨_, ?_, HJ3.out⟩⟩
        rw [← take_more HX6.out]
        exact List.take_prefix _ _

/-- numbers' iterator keeps its contract: it gives a view's numbers, one by one. -/
theorem numbers_stops (n : Nat) (hn : 1 ≤ n) (Bs b : Nat) (cs : Array Value) (hv : VwOk cs) (w : World) (hBs : Blk w Bs 32 cs) (hne : Bs ≠ b) (hb : b < w.heap.size) (hp : boxPtr w b ≠ some Bs) (ho : ∀ p, boxPtr w b = some p → p < w.heap.size) :
    SeqStopsK Fence.wide n Tryd.prog 65 #[.pointer (some ⟨Bs, 0, none⟩)] (fun x : Int => #[Value.int .i64 x]) (KBox b) (fun ys => ys = numsV cs) (fun pre => pre <+: numsV cs) 42 w := fun l J Jx W hW hJ _ hY h0 => by
  have e : boxPtr W b = boxPtr w b := boxPtr_of (hW.block b hb)
  have hlt : Bs < w.heap.size := (Array.getElem?_eq_some_iff.1 hBs).1
  exact numbers1_in n hn l Bs b _ cs hv J Jx hJ hY W ((hW.block Bs hlt).trans hBs) hne (Nat.lt_of_lt_of_le hb hW.size) (by rw [e]; exact hp) (fun p h => Nat.lt_of_lt_of_le (ho p (by rw [← e]; exact h)) hW.size) h0
end Go.Proofs.YtbmbaalidehoeaaDoor.K
