/- What a round of a loop over an iterator keeps, when it turns a box, and the slice's block that the box points at, and no other cells. -/
import Derived.Test.YtbmbaalidehoeaaDoorBase
import Derived.RangeFuncBox
import Derived.RangeFuncLeaves
import Derived.RangeFuncWrites
import Derived.Maps.AppendAt
namespace Go.Proofs.YtbmbaalidehoeaaDoor.K
open Go.RowKit

/-- Which block the box points at. -/
def boxPtr (W : World) (b : Nat) : Option Nat := (W.cell? ⟨b, 0, none⟩).bind Value.ownBlock
theorem boxPtr_of {W W' : World} {b : Nat} (h : W'.heap[b]? = W.heap[b]?) : boxPtr W' b = boxPtr W b := by
  unfold boxPtr; rw [World.cell?_of_block h]
theorem boxPtr_boxed {W : World} {b : Nat} {t : TypeId} {v : Value} (h : Boxed W b t v) : boxPtr W b = v.ownBlock := by
  unfold boxPtr; rw [h.cell]; rfl

structure KBox (b : Nat) (W W' : World) : Prop where
  size : W.heap.size ≤ W'.heap.size
  ptr : boxPtr W' b = boxPtr W b ∨ ∃ p, boxPtr W' b = some p ∧ W.heap.size ≤ p
  ok : (∀ p, boxPtr W b = some p → p < W.heap.size) → ∀ p, boxPtr W' b = some p → p < W'.heap.size
  cells : ∀ k cs t z, k ≠ b → boxPtr W b ≠ some k → W.heap[k]? = some (.cells cs t z) → W'.heap[k]? = some (.cells cs t z)

theorem KBox.refl (b : Nat) (W : World) : KBox b W W := ⟨Nat.le_refl _, .inl rfl, fun h => h, fun _ _ _ _ _ _ h => h⟩
theorem KBox.trans {b : Nat} {A B C : World} (h : KBox b A B) (k : KBox b B C) : KBox b A C := by
  refine ⟨Nat.le_trans h.size k.size, ?_, fun o => k.ok (h.ok o), fun i cs t z h1 h2 h3 => k.cells i cs t z h1 ?_ (h.cells i cs t z h1 h2 h3)⟩
  · rcases k.ptr with e | ⟨p, e, hp⟩
    · rcases h.ptr with e2 | ⟨p, e2, hp⟩
      · exact .inl (e.trans e2)
      · exact .inr ⟨p, e.trans e2, hp⟩
    · exact .inr ⟨p, e, Nat.le_trans h.size hp⟩
  · have hi : i < A.heap.size := (Array.getElem?_eq_some_iff.1 h3).1
    rcases h.ptr with e2 | ⟨p, e2, hp⟩
    · rw [e2]; exact h2
    · rw [e2]; intro e; cases e; omega
/-- All blocks stay: all is kept. -/
theorem KBox.all {b : Nat} {W W' : World} (hb : b < W.heap.size) (hs : W.heap.size ≤ W'.heap.size) (h : ∀ k, k < W.heap.size → W'.heap[k]? = W.heap[k]?) : KBox b W W' :=
  ⟨hs, .inl (boxPtr_of (h b hb)), fun o p hp => by rw [boxPtr_of (h b hb)] at hp; exact Nat.lt_of_lt_of_le (o p hp) hs,
    fun k _ _ _ _ _ hk => (h k (Array.getElem?_eq_some_iff.1 hk).1).trans hk⟩
theorem KBox.alloc {b : Nat} {W : World} (hb : b < W.heap.size) (o : Obj) : KBox b W (W.alloc o) :=
  KBox.all hb (by simp) fun k hk => Below.heap_alloc W o k hk
theorem KBox.drewN {b : Nat} {W : World} (hb : b < W.heap.size) (n : Nat) : KBox b W (W.drewN n) := KBox.all hb (Nat.le_refl _) fun _ _ => rfl
theorem KBox.below {b : Nat} {W W' : World} (hb : b < W.heap.size) (h : Below W.heap.size W W') : KBox b W W' := KBox.all hb h.size fun k hk => h.block k hk
/-- A block that holds no cells. -/
theorem KBox.put {b : Nat} {W : World} {l : Nat} (hl : b ≠ l) {o : Obj} (o' : Obj) (h : W.heap[l]? = some o) (ho : o.isCells = false) : KBox b W (W.putObj l o') := by
  have hs : (W.putObj l o').heap.size = W.heap.size := by simp
  refine ⟨by omega, .inl (boxPtr_of (World.putObj_heap_other hl)), fun k p hp => ?_, fun k cs t z _ _ hk => ?_⟩
  · rw [boxPtr_of (World.putObj_heap_other hl)] at hp; rw [hs]; exact k p hp
  · by_cases e : k = l
    · subst e; rw [h] at hk; cases hk; cases ho
    · exact (World.putObj_heap_other e).trans hk
/-- The box turns, and points at the same block. -/
theorem KBox.set {b : Nat} {W : World} {t : TypeId} {v v' : Value} (h : Boxed W b t v) (e : v'.ownBlock = v.ownBlock) : KBox b W (W.setCell ⟨b, 0, none⟩ v') := by
  have e1 := boxPtr_boxed h
  have e2 := boxPtr_boxed (h.set v')
  have hs : (W.setCell ⟨b, 0, none⟩ v').heap.size = W.heap.size := by show (W.heap.modify b _).size = _; simp
  refine ⟨by omega, .inl (by rw [e2, e1, e]), fun k p hp => ?_, fun k cs t z hk _ hh => (Below.heap_setCell W ⟨b, 0, none⟩ v' k hk).trans hh⟩
  rw [e2, e, ← e1] at hp; rw [hs]; exact k p hp
/-- Behind an append in a round: the box holds the longer slice. -/
theorem KBox.appended {b : Nat} {W w1 : World} {t e : TypeId} {size n₀ : Nat} {v v' : Value} {k m : Nat} {xs ys : List Value} {tmp : Obj} (hv : Boxed W b t v) (hte : t ≠ e) (hrow : W.ownsRow n₀ e size v k xs)
    (hown' : w1.ownsRow n₀ e size v' m ys) (hgrow : (W.alloc tmp).grownBy w1 v.ownBlock) (hp : v'.ownBlock = v.ownBlock ∨ v'.ownBlock = some (W.alloc tmp).heap.size) : KBox b W (w1.setCell ⟨b, 0, none⟩ v') := by
  have hv1 : Boxed w1 b t v := (hv.alloc tmp).kept hgrow (hv.not_row hte hrow)
  have e1 := boxPtr_boxed hv
  have e2 := boxPtr_boxed (hv1.set v')
  have hs : (w1.setCell ⟨b, 0, none⟩ v').heap.size = w1.heap.size := by show (w1.heap.modify b _).size = _; simp
  have hg := hgrow.size
  have ha : (W.alloc tmp).heap.size = W.heap.size + 1 := by simp
  refine ⟨by omega, ?_, fun _ p hp' => ?_, fun i cs s z h1 h2 h3 => ?_⟩
  · rcases hp with h | h
    · exact .inl (by rw [e2, e1, h])
    · exact .inr ⟨_, by rw [e2, h], by omega⟩
  · rw [e2] at hp'
    rw [hs]
    rcases hown'.2 with ⟨rfl, _⟩ | ⟨g, cap, cur, rfl, _, hb, _⟩
    · cases hp'
    · cases hp'
      exact (Array.getElem?_eq_some_iff.1 hb).1
  · have hi : i < W.heap.size := (Array.getElem?_eq_some_iff.1 h3).1
    rw [Below.heap_setCell w1 ⟨b, 0, none⟩ v' i h1, hgrow.block i (by omega) (by rw [← e1]; exact fun h => h2 h.symm)]
    exact (Below.heap_alloc W tmp i hi).trans h3
end Go.Proofs.YtbmbaalidehoeaaDoor.K
