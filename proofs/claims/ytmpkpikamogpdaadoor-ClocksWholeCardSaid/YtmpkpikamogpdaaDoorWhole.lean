/- ClocksWhole: the plain law; steps in memory. -/
import Derived.Test.YtmpkpikamogpdaaDoorGo2
import Derived.Deep.LoopGhost
import Derived.Deep.CutRange
import Derived.Deep.DeepCutAuto
namespace Go.Proofs.YtmpkpikamogpdaaDoor.K
open Go.RowKit

structure Stp where
  age : Int
  many : Int
  goes : Bool
  sure : Bool
def Stp.list (d : Stp) : List Value := [.int .i64 d.age, .int .u16 d.many, .bool d.goes, .bool d.sure]
def stpCells (l : List Stp) : List Value := l.flatMap Stp.list
theorem stpCells_at {l : List Stp} {k : Nat} {d : Stp} (h : l[k]? = some d) {j : Nat} {u : Value} (hj : d.list[j]? = some u) : (stpCells l)[k * 4 + j]? = some u := by
  have hl : j < 4 := by have := (List.getElem?_eq_some_iff.1 hj).1; simpa [Stp.list] using this
  induction l generalizing k with
  | nil => simp at h
  | cons a l ih =>
    have ha : a.list.length = 4 := rfl
    rw [stpCells, List.flatMap_cons, List.getElem?_append]
    cases k with
    | zero =>
      simp at h
      subst h
      rw [if_pos (by omega), Nat.zero_mul, Nat.zero_add]
      exact hj
    | succ k =>
      rw [if_neg (by omega), ha, show (k + 1) * 4 + j - 4 = k * 4 + j by omega]
      exact ih (by simpa using h)
theorem RdV.stp {w : World} {A : Option Addr} {l : List Stp} (h : RdV w A (stpCells l)) {k : Nat} (hk : k < l.length) :
    ∃ b off d, A = some ⟨b, off, none⟩ ∧ l[k]? = some d ∧ w.cell? ⟨b, off + k * 4, none⟩ = some (.int .i64 d.age) ∧ w.cell? ⟨b, off + k * 4 + 1, none⟩ = some (.int .u16 d.many) ∧ w.cell? ⟨b, off + k * 4 + 2, none⟩ = some (.bool d.goes) ∧ w.cell? ⟨b, off + k * 4 + 3, none⟩ = some (.bool d.sure) := by
  have hd : l[k]? = some l[k] := List.getElem?_eq_getElem hk
  have hne : stpCells l ≠ [] := by
    intro e
    have := stpCells_at hd (j := 0) rfl
    rw [e] at this
    simp at this
  obtain ⟨b, off, rfl, hc⟩ := h hne
  refine ⟨b, off, l[k], rfl, hd, ?_, ?_, ?_, ?_⟩
  · simpa [Nat.add_assoc] using hc _ _ (stpCells_at hd (j := 0) rfl)
  · simpa [Nat.add_assoc] using hc _ _ (stpCells_at hd (j := 1) rfl)
  · simpa [Nat.add_assoc] using hc _ _ (stpCells_at hd (j := 2) rfl)
  · simpa [Nat.add_assoc] using hc _ _ (stpCells_at hd (j := 3) rfl)

/-- What the law remembers of a clock: at which place it is, how long ago a slot began. -/
def WInv (L : Int) (k : Ck) (place since : Int) : Prop :=
  (k.state = 1 ∧ place = k.pl ∧ 0 ≤ k.pl ∧ k.pl < L ∧ since = k.pl) ∨ (k.state = 0 ∧ place = -1 ∧ 0 ≤ k.pl ∧ k.pl ≤ 4096 ∧ L ≤ since)
theorem whole_pl {L : Int} {k : Ck} {place since : Int} (h : WInv L k place since) (hL : L ≤ 4096) : (k.state = 0 ∨ k.state = 1) ∧ 0 ≤ k.pl ∧ k.pl ≤ 4096 := by
  rcases h with ⟨h1, _, h3, h4, _⟩ | ⟨h1, _, h3, h4, _⟩
  · exact ⟨.inr h1, h3, by omega⟩
  · exact ⟨.inl h1, h3, h4⟩
theorem whole_since {L : Int} {k : Ck} {place since : Int} (h : WInv L k place since) (hL : 0 ≤ L) : 0 ≤ since := by
  rcases h with ⟨_, _, h3, _, h5⟩ | ⟨_, _, _, _, h5⟩ <;> omega
theorem beginB_true {c : Cfg} {age : Int} {sure : Bool} (h : beginB c age sure = true) : sure = true ∧ ¬ outB age ∧ (tOf c age).place = 0 := by
  simp only [beginB, Bool.and_eq_true, Bool.not_eq_true', decide_eq_false_iff_not, beq_iff_eq] at h
  exact ⟨h.1.1, h.1.2, h.2⟩
theorem beginB_false {c : Cfg} {age : Int} {sure : Bool} (h : beginB c age sure = false) : sure = false ∨ (sure = true ∧ outB age) ∨ (sure = true ∧ ¬ outB age ∧ (tOf c age).place ≠ 0) := by
  cases sure
  · exact .inl rfl
  · by_cases ho : outB age
    · exact .inr (.inl ⟨rfl, ho⟩)
    · refine .inr (.inr ⟨rfl, ho, fun hz => ?_⟩)
      rw [beginB, decide_eq_false ho, hz] at h
      cases h
theorem whole_step {c : Cfg} (hL : 1 ≤ c.long ∧ c.long ≤ 4096) {k : Ck} {place since : Int} (h : WInv c.long k place since) (age : Int) (sure : Bool) :
    (0 ≤ place ∧ place + 1 < c.long ∧ ∃ r s, tickS c age sure k = ⟨1, r, s, place + 1⟩ ∧ WInv c.long ⟨1, r, s, place + 1⟩ (place + 1) (since + 1)) ∨
    ((place = -1 ∨ (0 ≤ place ∧ place + 1 = c.long)) ∧ c.long ≤ since + 1 ∧ ((beginB c age sure = true ∧ tickS c age sure k = ⟨1, (tOf c age).round, (tOf c age).slot, 0⟩ ∧ WInv c.long ⟨1, (tOf c age).round, (tOf c age).slot, 0⟩ 0 0) ∨
      (beginB c age sure = false ∧ ∃ r s pl, tickS c age sure k = ⟨0, r, s, pl⟩ ∧ WInv c.long ⟨0, r, s, pl⟩ (-1) (since + 1)))) := by
  obtain ⟨st, r, s, pl⟩ := k
  have hbeg : ∀ k0 : Ck, 0 ≤ k0.pl → k0.pl ≤ 4096 → c.long ≤ since + 1 → ((beginB c age sure = true ∧ beginS c age sure k0 = ⟨1, (tOf c age).round, (tOf c age).slot, 0⟩ ∧ WInv c.long ⟨1, (tOf c age).round, (tOf c age).slot, 0⟩ 0 0) ∨
      (beginB c age sure = false ∧ ∃ r s pl, beginS c age sure k0 = ⟨0, r, s, pl⟩ ∧ WInv c.long ⟨0, r, s, pl⟩ (-1) (since + 1))) := by
    intro k0 h0 h1 h2
    cases hb : beginB c age sure
    · exact .inr ⟨rfl, _, _, _, by rw [beginS, hb]; rfl, .inr ⟨rfl, rfl, h0, h1, h2⟩⟩
    · refine .inl ⟨rfl, ?_, .inl ⟨rfl, rfl, by dsimp only; omega, by dsimp only; omega, rfl⟩⟩
      rw [beginS, hb, (beginB_true hb).2.2]; rfl
  rcases h with ⟨h1, h2, h3, h4, h5⟩ | ⟨h1, h2, h3, h4, h5⟩
  · dsimp only at h1 h2 h3 h4 h5
    subst h1 h2
    have h5 := h5.symm
    subst h5
    by_cases hlt : place + 1 < c.long
    · refine .inl ⟨h3, hlt, r, s, by rw [tickS, if_pos rfl, if_pos hlt], .inl ⟨rfl, rfl, by dsimp only; omega, hlt, rfl⟩⟩
    · have ht : tickS c age sure ⟨1, r, s, place⟩ = beginS c age sure ⟨2, r, s, place + 1⟩ := by rw [tickS, if_pos rfl, if_neg hlt]
      refine .inr ⟨.inr ⟨h3, by omega⟩, by omega, ?_⟩
      rw [ht]
      exact hbeg ⟨2, r, s, place + 1⟩ (by dsimp only; omega) (by dsimp only; omega) (by omega)
  · dsimp only at h1 h2 h3 h4
    subst h1 h2
    have ht : tickS c age sure ⟨0, r, s, pl⟩ = beginS c age sure ⟨0, r, s, pl⟩ := by rw [tickS, if_neg (by dsimp only; decide)]
    refine .inr ⟨.inl rfl, by omega, ?_⟩
    rw [ht]
    exact hbeg ⟨0, r, s, pl⟩ h3 h4 (by omega)
end Go.Proofs.YtmpkpikamogpdaaDoor.K
