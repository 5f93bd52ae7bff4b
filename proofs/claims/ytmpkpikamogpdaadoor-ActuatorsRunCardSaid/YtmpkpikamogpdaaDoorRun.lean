/- sennitlaw26.ActuatorsRun answers true. -/
import Derived.Test.YtmpkpikamogpdaaDoorLives
import Derived.Test.YtmpkpikamogpdaaDoorGrow
import Derived.Deep.DeepCutAuto
import Derived.Deep.LoopGhost
import Derived.Deep.CutRange
namespace Go.Proofs.YtmpkpikamogpdaaDoor.K
open Go.RowKit

/-- What is delivered, cell by cell. -/
def ADl.list (d : ADl) : List Value := [.bool d.is, .int .i64 d.at_, .int .u8 d.kind, .int .u8 d.station, .int .u32 d.seq, .int .u32 d.value, .int .i64 d.pair, .int .i64 d.command, .int .i64 d.round]
def delCells (l : List ADl) : List Value := l.flatMap ADl.list
theorem delCells_at {l : List ADl} {k : Nat} {d : ADl} (h : l[k]? = some d) {j : Nat} {u : Value} (hj : d.list[j]? = some u) : (delCells l)[k * 9 + j]? = some u := by
  have hl : j < 9 := by have := (List.getElem?_eq_some_iff.1 hj).1; simpa [ADl.list] using this
  induction l generalizing k with
  | nil => simp at h
  | cons a l ih =>
    have ha : a.list.length = 9 := rfl
    rw [delCells, List.flatMap_cons, List.getElem?_append]
    cases k with
    | zero =>
      simp at h
      subst h
      rw [if_pos (by omega), Nat.zero_mul, Nat.zero_add]
      exact hj
    | succ k =>
      rw [if_neg (by omega), ha, show (k + 1) * 9 + j - 9 = k * 9 + j by omega]
      exact ih (by simpa using h)
theorem RdV.del {w : World} {A : Option Addr} {l : List ADl} (h : RdV w A (delCells l)) {k : Nat} (hk : k < l.length) :
    ∃ b off d, A = some ⟨b, off, none⟩ ∧ l[k]? = some d ∧ w.cell? ⟨b, off + k * 9, none⟩ = some (.bool d.is) ∧ w.cell? ⟨b, off + k * 9 + 1, none⟩ = some (.int .i64 d.at_) ∧ w.cell? ⟨b, off + k * 9 + 2, none⟩ = some (.int .u8 d.kind) ∧ w.cell? ⟨b, off + k * 9 + 3, none⟩ = some (.int .u8 d.station) ∧
      w.cell? ⟨b, off + k * 9 + 4, none⟩ = some (.int .u32 d.seq) ∧ w.cell? ⟨b, off + k * 9 + 5, none⟩ = some (.int .u32 d.value) ∧ w.cell? ⟨b, off + k * 9 + 6, none⟩ = some (.int .i64 d.pair) ∧ w.cell? ⟨b, off + k * 9 + 7, none⟩ = some (.int .i64 d.command) ∧ w.cell? ⟨b, off + k * 9 + 8, none⟩ = some (.int .i64 d.round) := by
  have hd : l[k]? = some l[k] := List.getElem?_eq_getElem hk
  have hne : delCells l ≠ [] := by
    intro e
    have := delCells_at hd (j := 0) rfl
    rw [e] at this
    simp at this
  obtain ⟨b, off, rfl, hc⟩ := h hne
  refine ⟨b, off, l[k], rfl, hd, ?_, ?_, ?_, ?_, ?_, ?_, ?_, ?_, ?_⟩
  · simpa [Nat.add_assoc] using hc _ _ (delCells_at hd (j := 0) rfl)
  · simpa [Nat.add_assoc] using hc _ _ (delCells_at hd (j := 1) rfl)
  · simpa [Nat.add_assoc] using hc _ _ (delCells_at hd (j := 2) rfl)
  · simpa [Nat.add_assoc] using hc _ _ (delCells_at hd (j := 3) rfl)
  · simpa [Nat.add_assoc] using hc _ _ (delCells_at hd (j := 4) rfl)
  · simpa [Nat.add_assoc] using hc _ _ (delCells_at hd (j := 5) rfl)
  · simpa [Nat.add_assoc] using hc _ _ (delCells_at hd (j := 6) rfl)
  · simpa [Nat.add_assoc] using hc _ _ (delCells_at hd (j := 7) rfl)
  · simpa [Nat.add_assoc] using hc _ _ (delCells_at hd (j := 8) rfl)

/-- What the loop keeps: the state that the program holds, and what the law remembers of the last one that was taken. -/
structure RunInv (ds : List ADl) (s : ASt) (last sn R : Int) (k : Nat) : Prop where
  lo : -100 ≤ s.round
  hi : s.round ≤ R
  r0 : 0 ≤ R
  snl : -1000 ≤ sn
  snh : sn ≤ R
  ty : (last = -1 ∧ s.any = false) ∨ ∃ (j : Nat) (d : ADl), last = j ∧ j < k ∧ ds[j]? = some d ∧ s.any = true ∧ s.seq = d.seq ∧ s.val = d.value ∧ ((s.round = sn ∧ 0 ≤ sn) ∨ (s.round = -100 ∧ sn = -1000))
def wantE (safe h : Int) (ds : List ADl) (last sn R : Int) : Int :=
  if last < 0 then safe else match ds[last.toNat]? with
    | none => safe
    | some d => if R - sn < h then d.value else safe
theorem out_one (safe h : Int) (s : ASt) (r : Int) : outE [⟨0, safe, h⟩] 0 s r = if s.any && (decide (s.round ≤ r) && decide (r - s.round < h)) then s.val else safe := rfl
theorem out_two (safe h : Int) (s : ASt) (r : Int) : outE [⟨0, safe, h⟩] 1 s r = 0 := rfl
theorem inv_out {ds : List ADl} {s : ASt} {last sn R : Int} {k : Nat} (hi : RunInv ds s last sn R k) (safe : Int) {h : Int} (h1 : 1 ≤ h) (h2 : h ≤ 100) : outE [⟨0, safe, h⟩] 0 s R = wantE safe h ds last sn R := by
  have r0 := hi.r0
  rw [out_one]
  rcases hi.ty with ⟨rfl, ha⟩ | ⟨j, d, rfl, hj, hd, ha, hs, hv, hr⟩
  · simp [ha, wantE]
  · have hw : wantE safe h ds j sn R = if R - sn < h then d.value else safe := by
      rw [wantE, if_neg (by omega), Int.toNat_natCast, hd]
    rw [hw, ha, hv]
    have h3 := hi.hi
    rcases hr with ⟨e, _⟩ | ⟨e, e'⟩
    · rw [e]
      rw [e] at h3
      by_cases hlt : R - sn < h
      · simp [hlt, h3]
      · simp [hlt]
    · rw [e, e']
      have a1 : ¬ R - -100 < h := by omega
      have a2 : ¬ R - -1000 < h := by omega
      simp only [a1, a2, decide_false, Bool.and_false, if_false, Bool.false_eq_true]
theorem inv_stale {ds : List ADl} {s : ASt} {last sn R : Int} {k : Nat} (hi : RunInv ds s last sn R k) : RunInv ds { s with round := -100 } last (-1000) R k := by
  have r0 := hi.r0
  refine ⟨by simp, by simp; omega, r0, by omega, by omega, ?_⟩
  rcases hi.ty with h | ⟨j, d, h1, h2, h3, h4, h5, h6, _⟩
  · exact .inl h
  · exact .inr ⟨j, d, h1, h2, h3, h4, h5, h6, .inr ⟨rfl, rfl⟩⟩
theorem stale_out {s : ASt} {R : Int} (safe : Int) {h : Int} (h2 : h ≤ 100) (r0 : 0 ≤ R) : outE [⟨0, safe, h⟩] 0 { s with round := -100 } R = safe := by
  rw [out_one]
  have a1 : ¬ R - -100 < h := by omega
  simp only [a1, decide_false, Bool.and_false, if_false, Bool.false_eq_true]
theorem inv_more {ds : List ADl} {s : ASt} {last sn R R' : Int} {k k' : Nat} (hi : RunInv ds s last sn R k) (h : R ≤ R') (hk : k ≤ k') : RunInv ds s last sn R' k' := by
  refine ⟨hi.lo, by have := hi.hi; omega, by have := hi.r0; omega, hi.snl, by have := hi.snh; omega, ?_⟩
  rcases hi.ty with h | ⟨j, d, h1, h2, h3⟩
  · exact .inl h
  · exact .inr ⟨j, d, h1, by omega, h3⟩
theorem inv_take {ds : List ADl} {k : Nat} {d : ADl} (hd : ds[k]? = some d) {R : Int} (h0 : 0 ≤ R) : RunInv ds ⟨true, d.seq, d.value, R⟩ k R R (k + 1) :=
  ⟨by show -100 ≤ R; omega, by show R ≤ R; omega, h0, by omega, by omega, .inr ⟨k, d, rfl, by omega, hd, rfl, rfl, rfl, .inl ⟨rfl, h0⟩⟩⟩
/-- What is known where a delivery was taken. -/
theorem taken {safe h : Int} {s : ASt} {d : ADl} (ht : takeOk [⟨0, safe, h⟩] 0 s d = true) : d.is = true ∧ d.kind = 2 ∧ d.station = 0 ∧ 0 ≤ d.command ∧ d.pair = d.command ∧ (s.any = true → s.seq < d.seq) := by
  simp only [takeOk, Bool.and_eq_true, cond1, cond2, cond3, cond4, cond5, beq_iff_eq, decide_eq_true_eq, Bool.or_eq_true, Bool.not_eq_true'] at ht
  obtain ⟨⟨⟨⟨⟨_, h1⟩, h2, h3⟩, h4, h5⟩, _⟩, h7⟩ := ht
  exact ⟨h1, h2, h3, h4, h5, fun ha => by rcases h7 with h7 | h7; rw [ha] at h7; cases h7; exact h7⟩
theorem twice {safe h : Int} {d : ADl} {R : Int} : takeOk [⟨0, safe, h⟩] 0 ⟨true, d.seq, d.value, R⟩ d = false := by
  have : cond5 ⟨true, d.seq, d.value, R⟩ d = false := by simp [cond5]
  rw [takeOk, this, Bool.and_false]
end Go.Proofs.YtmpkpikamogpdaaDoor.K
