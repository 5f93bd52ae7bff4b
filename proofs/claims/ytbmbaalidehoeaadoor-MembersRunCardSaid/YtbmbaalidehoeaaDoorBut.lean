/- All blocks below a bound but one stay as they are: a net stays a net while a view in a box beside it is turned. -/
import Derived.Test.YtbmbaalidehoeaaDoorMem
namespace Go.Proofs.YtbmbaalidehoeaaDoor.K
open Go.RowKit

structure But (B g : Nat) (w w' : World) : Prop where
  size : w.heap.size ≤ w'.heap.size
  block : ∀ b, b < B → b ≠ g → w'.heap[b]? = w.heap[b]?
theorem But.refl (B g : Nat) (w : World) : But B g w w := ⟨Nat.le_refl _, fun _ _ _ => rfl⟩
section
variable {B g : Nat} {w w1 w2 : World}
theorem But.below {n : Nat} (h : But B g w w1) (k : Below n w1 w2) (hB : B ≤ n) : But B g w w2 :=
  ⟨Nat.le_trans h.size k.size, fun b hb hg => (k.block b (by omega)).trans (h.block b hb hg)⟩
theorem But.setCell (h : But B g w w1) (p : Addr) (hp : p.block = g ∨ B ≤ p.block) (v : Value) : But B g w (w1.setCell p v) :=
  ⟨by have := h.size; simp; omega, fun b hb hg => (heap_setCell_other w1 p b v (by rcases hp with e | e <;> omega)).trans (h.block b hb hg)⟩
theorem But.setRow (h : But B g w w1) (k : Nat) (hp : k = g ∨ B ≤ k) (cs : Array Value) : But B g w (w1.setRow k cs) :=
  ⟨by have := h.size; simp; omega, fun b hb hg => (setRow_other w1 k b cs (by rcases hp with e | e <;> omega)).trans (h.block b hb hg)⟩
theorem But.alloc (h : But B g w w1) (hB : B ≤ w1.heap.size) (o : Obj) : But B g w (w1.alloc o) :=
  ⟨by have := h.size; simp; omega, fun b hb hg => (RowKit.Below.heap_alloc w1 o b (by omega)).trans (h.block b hb hg)⟩
theorem But.drewN (h : But B g w w1) (n : Nat) : But B g w (w1.drewN n) := ⟨h.size, h.block⟩
theorem But.blk {b : Nat} {t : TypeId} {cs : Array Value} (h : But B g w w1) (hb : Blk w b t cs) (hlt : b < B) (hg : b ≠ g) : Blk w1 b t cs := (h.block b hlt hg).trans hb
end
theorem cell_of_heap {w w' : World} {b : Nat} (h : w'.heap[b]? = w.heap[b]?) (o : Nat) : w'.cell? ⟨b, o, none⟩ = w.cell? ⟨b, o, none⟩ := by simp [World.cell?, h]

/-- No cell of a view is an int of 64 bits. -/
theorem VwOk.noI64 {cs : Array Value} (h : VwOk cs) (i : Nat) (x : Int) : cs[i]? ≠ some (.int .i64 x) := by
  intro e
  have hi : i < 42 := by rw [← h.size]; exact (Array.getElem?_eq_some_iff.1 e).1
  rcases Nat.lt_or_ge i 8 with g | g
  · rw [h.b i (.inl g)] at e; cases e
  rcases Nat.lt_or_ge i 24 with g1 | g1
  · rw [(h.u8 i g g1).1] at e; cases e
  rcases Nat.lt_or_ge i 32 with g2 | g2
  · rw [(h.u16 i g1 g2).1] at e; cases e
  rcases Nat.lt_or_ge i 40 with g3 | g3
  · rw [h.b i (.inr ⟨g2, g3⟩)] at e; cases e
  rcases Nat.lt_or_ge i 41 with g4 | g4
  · obtain rfl : i = 40 := by omega
    rw [h.cmd.1] at e; cases e
  · obtain rfl : i = 41 := by omega
    rw [h.mode.1] at e; cases e
theorem RdI.but {g : Nat} {w w1 : World} {A : Option Addr} {xs : List Int} {t : TypeId} {cs : Array Value} (h : RdI w A xs) (k : But w.heap.size g w w1) (hg : Blk w g t cs) (hv : VwOk cs) : RdI w1 A xs := fun hn => by
  obtain ⟨b, off, rfl, hc⟩ := h hn
  have hl : 0 < xs.length := List.length_pos_iff.2 hn
  have h0 := hc 0 hl
  have hne : b ≠ g := by
    rintro rfl
    rw [hg.cell] at h0
    exact hv.noI64 _ _ h0
  exact ⟨b, off, rfl, fun j hj => (cell_of_heap (k.block b (cell_lt h0) hne) _).trans (hc j hj)⟩
theorem RdV.but {g : Nat} {w w1 : World} {A : Option Addr} {l : List Stn} {t : TypeId} {cs : Array Value} (h : RdV w A (stnCells l)) (k : But w.heap.size g w w1) (hg : Blk w g t cs) (hv : VwOk cs) : RdV w1 A (stnCells l) := fun hn => by
  obtain ⟨b, off, rfl, hc⟩ := h hn
  cases l with
  | nil => exact absurd rfl hn
  | cons s l =>
    have h0 := hc 0 (.int .i64 s.node) rfl
    have hne : b ≠ g := by
      rintro rfl
      rw [hg.cell] at h0
      exact hv.noI64 _ _ h0
    exact ⟨b, off, rfl, fun j u hj => (cell_of_heap (k.block b (cell_lt h0) hne) _).trans (hc j u hj)⟩
theorem NetAt.but {g p : Nat} {c : Cfg} {w w1 : World} {t : TypeId} {cs : Array Value} (h : NetAt w p c) (k : But w.heap.size g w w1) (hg : Blk w g t cs) (hv : VwOk cs) : NetAt w1 p c := by
  obtain ⟨hE, gg, A1, A2, A3, A4, h0, r1, r2, r3, r4, r5⟩ := h
  refine ⟨hE, gg, A1, A2, A3, A4, ?_, r1.but k hg hv, r2.but k hg hv, r3.but k hg hv, r4.but k hg hv, ?_⟩
  · refine k.blk h0 h0.lt ?_
    rintro rfl
    have a := h0.cell 0
    rw [hg.cell 0] at a
    exact hv.noI64 _ _ a
  · exact r5.but k hg hv
end Go.Proofs.YtbmbaalidehoeaaDoor.K
