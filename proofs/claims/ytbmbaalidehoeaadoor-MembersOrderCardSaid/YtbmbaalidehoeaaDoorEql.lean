/- Two flat values (structs and arrays of bools and integers) are equal just if their cells are. No program stands here. -/
import Derived.Test.YtbmbaalidehoeaaDoorFlat
import Derived.DeepKeys2
import Derived.Laws.StructEq
namespace Go.Proofs.YtbmbaalidehoeaaDoor.K
open Go.RowKit

def cellOk (P : Program) (u : TypeId) (v : Value) : Prop := (P.underlying u = some .bool ∧ ∃ b, v = .bool b) ∨ (∃ k n, P.underlying u = some (.int k) ∧ v = .int k n ∧ (Lit.int k n).wf = true)
structure Flat (P : Program) (m : Nat) (t : TypeId) (cs : List Value) : Prop where
  len : cs.length = P.cellsOf t
  cells : ∀ i v, cs[i]? = some v → ∃ u, leafAt P m t i = some u ∧ cellOk P u v

/-- Each cell of a type has its place among its parts. -/
def flatB (P : Program) : Nat → TypeId → Bool
  | 0, _ => false
  | m + 1, t =>
    match P.underlying t with
    | some .bool | some (.int _) => P.cellsOf t == 1
    | some (.array n e) => P.cellsOf t == n * P.cellsOf e && flatB P m e
    | some (.struct fs) => P.runs 0 fs.toList == some (P.cellsOf t) && fs.all fun f => f.name != "_" && flatB P m f.type
    | _ => false

section
variable {P : Program}
theorem runs_le : ∀ (fs : List Field) (off tot : Nat), P.runs off fs = some tot → off ≤ tot ∧ ∀ f ∈ fs, off ≤ f.offset ∧ f.offset + P.cellsOf f.type ≤ tot
  | [], off, tot, h => by simp only [Program.runs, Option.some.injEq] at h; subst h; simp
  | f :: r, off, tot, h => by
    simp only [Program.runs] at h
    split at h
    · rename_i ho
      obtain ⟨h1, h2⟩ := runs_le r _ tot h
      refine ⟨by omega, fun g hg => ?_⟩
      rcases List.mem_cons.1 hg with rfl | hg
      · omega
      · have := h2 g hg; omega
    · cases h
theorem runs_find : ∀ (fs : List Field) (off tot : Nat), P.runs off fs = some tot → ∀ f ∈ fs, ∀ j, j < P.cellsOf f.type →
    ∃ g, fs.find? (fun g => decide (g.offset ≤ f.offset + j) && decide (f.offset + j < g.offset + P.cellsOf g.type)) = some g ∧ g.offset = f.offset ∧ g.type = f.type
  | [], _, _, _ => by simp
  | h :: r, off, tot, hr => by
    simp only [Program.runs] at hr
    split at hr
    · rename_i ho
      obtain ⟨_, h2⟩ := runs_le r _ tot hr
      intro f hf j hj
      rcases List.mem_cons.1 hf with rfl | hf
      · exact ⟨f, by rw [List.find?_cons_of_pos]; simp; omega, rfl, rfl⟩
      · obtain ⟨g, hg, e1, e2⟩ := runs_find r _ tot hr f hf j hj
        have := (h2 f hf).1
        exact ⟨g, by rw [List.find?_cons_of_neg]; exact hg; simp; omega, e1, e2⟩
    · cases hr

theorem mapM_some {α β : Type} {f : α → Option β} : ∀ (L : List α), (∀ x ∈ L, ∃ y, f x = some y) → ∃ ys, L.mapM f = some ys
  | [], _ => ⟨[], by simp⟩
  | x :: L, h => by
    obtain ⟨y, hy⟩ := h x (by simp)
    obtain ⟨ys, hys⟩ := mapM_some L (fun z hz => h z (by simp [hz]))
    exact ⟨y :: ys, by rw [List.mapM_cons]; simp [hy, hys]⟩

theorem keyLits_flat : ∀ (m : Nat) {t D : Nat} {cs : List Value}, m ≤ D → flatB P m t = true → Flat P m t cs → ∃ l, P.keyLits D t cs = some l
  | 0, _, _, _, _, hb, _ => by simp [flatB] at hb
  | m + 1, t, 0, cs, hD, _, _ => by omega
  | m + 1, t, D + 1, cs, hD, hb, h => by
    unfold flatB at hb
    unfold Program.keyLits
    have hlen := h.len
    have hcells := h.cells
    cases hu : P.underlying t with
    | none => simp [hu] at hb
    | some kd =>
      rw [hu] at hb
      cases kd
      case bool =>
        simp only [beq_iff_eq] at hb
        rw [hb] at hlen
        match cs, hlen with
        | [c], _ =>
          obtain ⟨u, hl, hc⟩ := hcells 0 c rfl
          simp only [leafAt, hu, if_true, Option.some.injEq] at hl
          subst hl
          rcases hc with ⟨_, b, rfl⟩ | ⟨k, n, h1, _⟩
          · exact ⟨_, rfl⟩
          · rw [hu] at h1; cases h1
      case int q =>
        simp only [beq_iff_eq] at hb
        rw [hb] at hlen
        match cs, hlen with
        | [c], _ =>
          obtain ⟨u, hl, hc⟩ := hcells 0 c rfl
          simp only [leafAt, hu, if_true, Option.some.injEq] at hl
          subst hl
          rcases hc with ⟨h1, _⟩ | ⟨k, n, h1, rfl, hw⟩
          · rw [hu] at h1; cases h1
          · rw [hu] at h1
            obtain rfl : q = k := by injection h1 with h1; injection h1
            exact ⟨[.int q n], by simp [hw]⟩
      case array n e =>
        simp only [Bool.and_eq_true, beq_iff_eq] at hb
        simp only [if_pos hlen]
        obtain ⟨ys, hys⟩ := mapM_some (f := fun i => P.keyLits D e ((cs.drop (i * P.cellsOf e)).take (P.cellsOf e))) (List.range n) (fun i hi => by
          have hi' : i < n := by simpa using hi
          have hle : (i + 1) * P.cellsOf e ≤ n * P.cellsOf e := Nat.mul_le_mul_right _ hi'
          rw [Nat.succ_mul] at hle
          refine keyLits_flat m (by omega) hb.2 ⟨by rw [List.length_take, List.length_drop, hlen, hb.1]; omega, fun j v hj => ?_⟩
          rw [List.getElem?_take] at hj
          split at hj
          · rename_i hjc
            rw [List.getElem?_drop] at hj
            obtain ⟨u, hl, hc⟩ := hcells _ v hj
            refine ⟨u, ?_, hc⟩
            have c0 : 0 < P.cellsOf e := by omega
            have d1 : (i * P.cellsOf e + j) / P.cellsOf e = i := by rw [Nat.mul_comm, Nat.mul_add_div c0, Nat.div_eq_of_lt hjc]; omega
            have d2 : (i * P.cellsOf e + j) % P.cellsOf e = j := by rw [Nat.mul_comm, Nat.mul_add_mod, Nat.mod_eq_of_lt hjc]
            simp only [leafAt, hu, d1, d2] at hl
            rw [if_pos ⟨hi', hjc⟩] at hl
            exact hl
          · cases hj)
        exact ⟨ys.flatten, by rw [hys]; rfl⟩
      case struct fs =>
        simp only [Bool.and_eq_true, beq_iff_eq] at hb
        have hall := Array.all_eq_true_iff_forall_mem.1 hb.2
        have hnames : fs.all (·.name != "_") = true := Array.all_eq_true_iff_forall_mem.2 (fun f hf => by have := hall f hf; simp only [Bool.and_eq_true] at this; exact this.1)
        simp only [if_pos (⟨hlen, hnames⟩ : cs.length = P.cellsOf t ∧ fs.all (·.name != "_") = true)]
        have hle := (runs_le _ _ _ hb.1).2
        obtain ⟨ys, hys⟩ := mapM_some (f := fun f : Field => P.keyLits D f.type ((cs.drop f.offset).take (P.cellsOf f.type))) fs.toList (fun f hf => by
          have h1 := hall f (Array.mem_toList_iff.1 hf)
          simp only [Bool.and_eq_true] at h1
          have h2 := hle f hf
          refine keyLits_flat m (by omega) h1.2 ⟨by rw [List.length_take, List.length_drop, hlen]; omega, fun j v hj => ?_⟩
          rw [List.getElem?_take] at hj
          split at hj
          · rename_i hjc
            rw [List.getElem?_drop] at hj
            obtain ⟨u, hl, hc⟩ := hcells _ v hj
            refine ⟨u, ?_, hc⟩
            obtain ⟨g, hg, e1, e2⟩ := runs_find _ _ _ hb.1 f hf j hjc
            simp only [leafAt, hu, hg, e1, e2] at hl
            rw [Nat.add_sub_cancel_left] at hl
            exact hl
          · cases hj)
        exact ⟨ys.flatten, by rw [hys]; rfl⟩
      all_goals (simp at hb; done)

theorem toCell_inj : ∀ {a b : List Lit}, a = b → a.map Lit.toCell = b.map Lit.toCell := by rintro a _ rfl; rfl

/-- Are the cells the same? -/
noncomputable def eqA (a b : Array Value) : Bool := @decide (a = b) (Classical.propDecidable _)
theorem eqA_iff {a b : Array Value} : eqA a b = true ↔ a = b := by unfold eqA; exact @decide_eq_true_iff _ (Classical.propDecidable _)
theorem eqA_self (a : Array Value) : eqA a a = true := eqA_iff.2 rfl
theorem eqA_ne {a b : Array Value} (h : a ≠ b) : eqA a b = false := by
  cases e : eqA a b
  · rfl
  · exact absurd (eqA_iff.1 e) h
/-- The law. -/
theorem flat_equal {m : Nat} {t : TypeId} (hm : m ≤ 10000) (hk : P.keyTypeAt m t = true) (ht : P.tiled m t = true) (hf : flatB P m t = true) (hfo : (match P.underlying t with | some (.array _ _) | some (.struct _) => true | _ => false) = true)
    {a b : Array Value} (ha : Flat P m t a.toList) (hb : Flat P m t b.toList) (W : World) : (Op.equalIn 10000 t (.agg a) (.agg b)).run P W = .ok (eqA a b) W := by
  obtain ⟨la, hla⟩ := keyLits_flat m (Nat.le_refl m) hf ha
  obtain ⟨lb, hlb⟩ := keyLits_flat m (Nat.le_refl m) hf hb
  have ea := cells_of_lits m t ht _ _ _ hla
  have eb := cells_of_lits m t ht _ _ _ hlb
  have form : ∀ {c : Array Value}, c.toList.length = P.cellsOf t → (Value.agg c).formed P t = true := by
    intro c hc
    unfold Value.formed
    split at hfo <;> simp_all
  obtain ⟨r, hr, hiff⟩ := run_equalIn_deep (10000 - m) m t hk W m m (.agg a) (.agg b) la lb (form ha.len) (form hb.len) hla hlb
  rw [show 10000 - m + m = 10000 by omega] at hr
  rw [hr]
  have : r = eqA a b := by
    rw [Bool.eq_iff_iff, hiff, eqA_iff]
    constructor
    · intro e
      rw [e] at ea
      exact Array.ext' (ea.trans eb.symm)
    · rintro rfl
      rw [hla] at hlb
      exact Option.some.inj hlb
  rw [this]
theorem flat_eql {m : Nat} {t : TypeId} (hm : m ≤ 10000) (hk : P.keyTypeAt m t = true) (ht : P.tiled m t = true) (hf : flatB P m t = true) (hfo : (match P.underlying t with | some (.array _ _) | some (.struct _) => true | _ => false) = true)
    {a b : Array Value} (ha : Flat P m t a.toList) (hb : Flat P m t b.toList) (W : World) : (binOp .eql t (.agg a) (.agg b)).run P W = .ok (.bool (eqA a b)) W := by
  rw [run_eql_struct, flat_equal hm hk ht hf hfo ha hb]; rfl
theorem flat_neq {m : Nat} {t : TypeId} (hm : m ≤ 10000) (hk : P.keyTypeAt m t = true) (ht : P.tiled m t = true) (hf : flatB P m t = true) (hfo : (match P.underlying t with | some (.array _ _) | some (.struct _) => true | _ => false) = true)
    {a b : Array Value} (ha : Flat P m t a.toList) (hb : Flat P m t b.toList) (W : World) : (binOp .neq t (.agg a) (.agg b)).run P W = .ok (.bool (!eqA a b)) W := by
  rw [run_neq_struct, flat_equal hm hk ht hf hfo ha hb]; rfl
end
end Go.Proofs.YtbmbaalidehoeaaDoor.K
