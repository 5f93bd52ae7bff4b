/- sennitref04.slots. -/
import Derived.Test.YtmpkpikamogpdaaDoorRef4
import Derived.BigQuiet
namespace Go.Proofs.YtmpkpikamogpdaaDoor.K
open Go.RowKit

def slotsOkB (m : Nat) (ss : List Int) : Bool := !ss.any (notIn m) && (List.range m).all fun p => ss.any fun x => (p : Int) == x
def hasL (m : Nat) (hs : List Int) : List Value := (List.range m).map fun (i : Nat) => .bool (decide ((i : Int) ∈ hs))
theorem hasL_length (m : Nat) (hs : List Int) : (hasL m hs).length = m := by simp [hasL]
theorem hasL_at {m : Nat} {hs : List Int} {x : Nat} (h : x < m) : (hasL m hs)[x]? = some (.bool (decide ((x : Int) ∈ hs))) := by simp [hasL, h]
theorem hasL_set {m : Nat} {hs : List Int} {x : Nat} : (hasL m hs).set x (.bool true) = hasL m (hs ++ [(x : Int)]) := by
  apply List.ext_getElem?
  intro i
  by_cases hi : i < m
  · rw [hasL_at hi, List.getElem?_set]
    by_cases h : x = i
    · subst h
      rw [if_pos rfl, if_pos (by rw [hasL_length]; exact hi)]
      simp
    · rw [if_neg h, hasL_at hi]
      have : (i : Int) ≠ (x : Int) := by omega
      simp [this]
  · rw [List.getElem?_eq_none (by rw [List.length_set, hasL_length]; omega), List.getElem?_eq_none (by rw [hasL_length]; omega)]
theorem hasL_nil (m : Nat) : hasL m [] = List.replicate m (.bool false) := by
  apply List.ext_getElem?
  intro i
  by_cases hi : i < m
  · rw [hasL_at hi]; simp [hi]
  · rw [List.getElem?_eq_none (by rw [hasL_length]; omega), List.getElem?_eq_none (by simp; omega)]
theorem slotsOkB_out {m : Nat} {ss : List Int} {i : Nat} (hi : i < ss.length) (h : ss[i]?.getD 0 < 0 ∨ (m : Int) ≤ ss[i]?.getD 0) : slotsOkB m ss = false := by
  have h1 : ss.any (notIn m) = true := by
    rw [List.any_eq_true]
    refine ⟨ss[i], List.getElem_mem hi, ?_⟩
    rw [List.getElem?_eq_getElem hi] at h
    simp at h
    simp [notIn]
    exact h
  simp [slotsOkB, h1]
theorem slotsOkB_miss {m : Nat} {ss : List Int} {p : Nat} (hp : p < m) (h : (p : Int) ∉ ss) : slotsOkB m ss = false := by
  have : ((List.range m).all fun p => ss.any fun x => (p : Int) == x) = false := by
    rw [List.all_eq_false]
    refine ⟨p, by simpa using hp, ?_⟩
    simp only [List.any_eq_true, beq_iff_eq, not_exists, not_and]
    intro x hx e
    exact h (e ▸ hx)
  simp [slotsOkB, this]
theorem slotsOkB_all {m : Nat} {ss : List Int} (h1 : ∀ i, i < ss.length → 0 ≤ ss[i]?.getD 0 ∧ ss[i]?.getD 0 < (m : Int)) (h2 : ∀ p : Nat, p < m → (p : Int) ∈ ss) : slotsOkB m ss = true := by
  have e1 : ss.any (notIn m) = false := by
    rw [List.any_eq_false]
    intro x hx
    obtain ⟨i, hi, rfl⟩ := List.getElem_of_mem hx
    have := h1 i hi
    rw [List.getElem?_eq_getElem hi] at this
    simp at this
    simp [notIn]
    omega
  have e2 : ((List.range m).all fun p => ss.any fun x => (p : Int) == x) = true := by
    rw [List.all_eq_true]
    intro p hp
    rw [List.any_eq_true]
    exact ⟨p, h2 p (by simpa using hp), by simp⟩
  simp [slotsOkB, e1, e2]

set_option maxRecDepth 100000 in
set_option maxHeartbeats 8000000 in
theorem refSlots_any (n : Int) (A1 : Option Addr) (c1 : Nat) (ps : List Int) (A2 : Option Addr) (c2 : Nat) (ss : List Int) (long : Int) (A3 : Option Addr) (c3 : Nat) (bs : List Int) (A4 : Option Addr) (c4 : Nat) (st : List Stn) (miss good fresh : Int) (w : World) (hr : RdI w A2 ss) (hl : ps.length ≤ 8) (hl2 : ss.length ≤ 16) :
    Calls Tryd.prog 50 #[(.agg #[.int .i64 n, .slice A1 ps.length c1, .slice A2 ss.length c2, .int .i64 long, .slice A3 bs.length c3, .slice A4 st.length c4, .int .i64 miss, .int .i64 good, .int .i64 fresh])] w fun e w' => e = .returned (.bool (slotsOkB ps.length ss)) ∧ Below w.heap.size w w' := by
  obtain ⟨i0, hi, hz0, hz1, hz2⟩ := info_parts info_b
  obtain ⟨m, em⟩ : ∃ m, ps.length = m := ⟨_, rfl⟩
  rw [em] at hl ⊢
  have hmk := fun W => run_make_rowN (P := Tryd.prog) 138 4 i0 _ Tryd.underlying138 hi hz0 .i64 .i64 m m (Nat.le_refl _) (by rw [hz2]; omega) (by omega) W
  rw [hz1, Nat.mul_one, show (Value.bool false).cells = #[.bool false] from rfl, madeCells_one, ← hasL_nil] at hmk
  clear hi hz0 hz1 hz2
  go_enter Tryd.func50, Tryd.ntmps50
  go_wp2
  refine gen_wp (fun W => Hid (Blk W w.heap.size 44 #[.int .i64 n, .slice A1 m c1, .slice A2 ss.length c2, .int .i64 long, .slice A3 bs.length c3, .slice A4 st.length c4, .int .i64 miss, .int .i64 good, .int .i64 fresh]) ∧ Hid (Blk W (w.heap.size + 1) 4 (hasL m []).toArray) ∧ Hid (Below w.heap.size w W)) ⟨Lib.hid ((Blk.new_ w _ _ rfl).alloc _), Lib.hid (Blk.new_ (w.alloc _) _ _ (by simp)), Lib.hid (Below.allocW (Below.allocW (Below.refl _ _) _) _)⟩ ?_
  obtain ⟨B, eB⟩ : ∃ B, w.heap.size = B := ⟨_, rfl⟩
  rw [eB]
  rintro W ⟨K0, K1, HB⟩
  have HR := Lib.hid hr
  clear hr hmk
  go_loopw [4] (fun v wr => ∃ k : Nat, k ≤ ss.length ∧ v = .int .i64 k ∧ Hid (Blk wr B 44 #[.int .i64 n, .slice A1 m c1, .slice A2 ss.length c2, .int .i64 long, .slice A3 bs.length c3, .slice A4 st.length c4, .int .i64 miss, .int .i64 good, .int .i64 fresh]) ∧ Hid (Blk wr (B + 1) 4 (hasL m (ss.take k)).toArray) ∧ Hid (Below B w wr) ∧ Hid (∀ i, i < k → 0 ≤ ss[i]?.getD 0 ∧ ss[i]?.getD 0 < (m : Int))) (fun v _ => ss.length - (intOf v).toNat)
  case atStart => exact ⟨0, by omega, rfl, K0, K1, HB, Lib.hid fun i hi => by omega⟩
  case round =>
    obtain ⟨k, hk, rfl, KC, KU, HBR, HP⟩ := hrel
    have hc0 := KC.out.lt
    have hu0 := KU.out.lt
    obtain ⟨q0, q1, q2, q3, q4, q5, q6, q7, q8⟩ := box9 KC.out
    by_cases hlt : k < ss.length
    · obtain ⟨b, off, eA, hcs⟩ := (HR.out.below (by rw [eB]; exact HBR.out)).at_ hlt
      subst eA
      have hcx := hcs k hlt
      obtain ⟨x, hx⟩ : ∃ x, ss[k]?.getD 0 = x := ⟨_, rfl⟩
      rw [hx] at hcx
      have hkk : (k : Int) < (ss.length : Int) := by omega
      have HX := Lib.hid hx
      clear hcs hx
      by_cases hx0 : x < 0
      · have hd0 : decide (x < 0) = true := decide_eq_true hx0
        go_wp2
        go_quiet (fail)
        go_wp2
        go_ret
        exact ⟨ret_bool (Eq.symm (slotsOkB_out hlt (by rw [HX.out]; omega))), by first | exact below_drewN HBR.out _ | (rw [eB]; exact below_drewN HBR.out _)⟩
      · have hd0 : decide (x < 0) = false := decide_eq_false hx0
        by_cases hxn : (m : Int) ≤ x
        · have hd1 : decide ((m : Int) ≤ x) = true := decide_eq_true hxn
          go_wp2
          go_quiet (fail)
          go_wp2
          go_ret
          exact ⟨ret_bool (Eq.symm (slotsOkB_out hlt (by rw [HX.out]; omega))), by first | exact below_drewN HBR.out _ | (rw [eB]; exact below_drewN HBR.out _)⟩
        · have hd1 : decide ((m : Int) ≤ x) = false := decide_eq_false hxn
          obtain ⟨X, rfl⟩ : ∃ X : Nat, x = X := ⟨x.toNat, by omega⟩
          have hXm : X < m := by omega
          have hXm' : (X : Int) < (m : Int) := by omega
          have u1 := KU.out.cell X
          have f1 := KU.out.frozen X
          obtain ⟨hs0, ehs⟩ : ∃ hs0, ss.take k = hs0 := ⟨_, rfl⟩
          rw [ehs] at u1
          rw [List.getElem?_toArray, hasL_at hXm] at u1
          have HNX : Hid (ss.take (k + 1) = hs0 ++ [(X : Int)]) := Lib.hid (by rw [take_snoc' ss k hlt, HX.out, ehs])
          have EHS := Lib.hid ehs
          clear ehs
          go_wp2
          go_quiet (fail)
          rename_i nq
          go_wp2
          go_roundw
          case rel =>
            refine ⟨k + 1, by omega, by go_num, Lib.hid ((KC.out.below (below_of_drewN ⟨_, rfl⟩)).far (by simp) _), Lib.hid ?_, Lib.hid ((below_drewN HBR.out _).setCell (by simp) _), Lib.hid fun i hi => ?_⟩
            · have h1 := (KU.out.drewN nq).set_ X (.bool true)
              rw [EHS.out] at h1
              rw [HNX.out, ← hasL_set]
              simpa using h1
            · rcases Nat.lt_succ_iff_lt_or_eq.1 hi with h | rfl
              · exact HP.out i h
              · rw [HX.out]; exact ⟨by omega, by omega⟩
          case measure => simp [intOf]; omega
    · obtain rfl : k = ss.length := by omega
      have hPall := HP.out
      obtain ⟨hs1, eh1⟩ : ∃ hs1, ss.take ss.length = hs1 := ⟨_, rfl⟩
      have eh2 : hs1 = ss := by rw [← eh1, List.take_length]
      rw [eh2] at eh1
      rw [eh1] at KU
      clear eh1 eh2
      have HPA := Lib.hid hPall
      clear hPall
      go_wp2
      go_loopw [5] (fun v wx => ∃ j : Nat, j ≤ m ∧ v = .int .i64 j ∧ Hid (Blk wx (B + 1) 4 (hasL m ss).toArray) ∧ Hid (Below B w wx) ∧ Hid (∀ p : Nat, p < j → (p : Int) ∈ ss)) (fun v _ => m - (intOf v).toNat)
      case atStart => exact ⟨0, by omega, rfl, KU, HBR, Lib.hid fun p hp => by omega⟩
      case round =>
        obtain ⟨j, hj, rfl, KV, HBV, HQ⟩ := hrel
        have hv0 := KV.out.lt
        by_cases hjm : j < m
        · have hjm' : (j : Int) < (m : Int) := by omega
          have u1 := KV.out.cell j
          rw [List.getElem?_toArray, hasL_at hjm] at u1
          by_cases hin : (j : Int) ∈ ss
          · rw [decide_eq_true hin] at u1
            go_wp2
            go_roundw
            case rel =>
              refine ⟨j + 1, by omega, by go_num, KV, HBV, Lib.hid fun p hp => ?_⟩
              rcases Nat.lt_succ_iff_lt_or_eq.1 hp with h | rfl
              · exact HQ.out p h
              · exact hin
            case measure => simp [intOf]; omega
          · rw [decide_eq_false hin] at u1
            go_wp2
            go_ret
            exact ⟨ret_bool (Eq.symm (slotsOkB_miss hjm hin)), by first | exact HBV.out | (rw [eB]; exact HBV.out)⟩
        · obtain rfl : j = m := by omega
          go_wp2
          go_ret
          exact ⟨ret_bool (Eq.symm (slotsOkB_all HPA.out HQ.out)), by first | exact HBV.out | (rw [eB]; exact HBV.out)⟩
end Go.Proofs.YtmpkpikamogpdaaDoor.K
