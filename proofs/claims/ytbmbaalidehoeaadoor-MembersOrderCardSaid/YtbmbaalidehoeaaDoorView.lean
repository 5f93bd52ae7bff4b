/- A view of 42 cells: what its cells hold, what a step of a round, a first view, the order make of it. Plain facts; no program stands here. -/
import Derived.Test.YtbmbaalidehoeaaDoorGrow
import Derived.Laws.Rows
import Derived.Deep.MidRow
namespace Go.Proofs.YtbmbaalidehoeaaDoor.K
open Go.RowKit

/-- Cell i as a bool, as a number. -/
def bl (cs : Array Value) (i : Nat) : Bool := match cs[i]? with | some (.bool b) => b | _ => false
def nm (cs : Array Value) (i : Nat) : Int := match cs[i]? with | some (.int _ n) => n | _ => 0

/-- In: 0..7, Miss: 8..15, Good: 16..23, Score: 24..31, Got: 32..39, Command: 40, Mode: 41. -/
structure VwOk (cs : Array Value) : Prop where
  size : cs.size = 42
  b : ∀ i, i < 8 ∨ (32 ≤ i ∧ i < 40) → cs[i]? = some (.bool (bl cs i))
  u8 : ∀ i, 8 ≤ i → i < 24 → cs[i]? = some (.int .u8 (nm cs i)) ∧ 0 ≤ nm cs i ∧ nm cs i < 256
  u16 : ∀ i, 24 ≤ i → i < 32 → cs[i]? = some (.int .u16 (nm cs i)) ∧ 0 ≤ nm cs i ∧ nm cs i < 65536
  cmd : cs[40]? = some (.int .i8 (nm cs 40)) ∧ -128 ≤ nm cs 40 ∧ nm cs 40 < 128
  mode : cs[41]? = some (.int .u8 (nm cs 41)) ∧ 0 ≤ nm cs 41 ∧ nm cs 41 < 256

theorem bl_of {cs : Array Value} {i : Nat} {b : Bool} (h : cs[i]? = some (.bool b)) : bl cs i = b := by simp [bl, h]
theorem nm_of {cs : Array Value} {i : Nat} {k : IntKind} {n : Int} (h : cs[i]? = some (.int k n)) : nm cs i = n := by simp [nm, h]
theorem bl_set {cs : Array Value} {i j : Nat} {b : Bool} (hi : i < cs.size) : bl (cs.setIfInBounds i (.bool b)) j = if i = j then b else bl cs j := by
  unfold bl
  by_cases h : i = j
  · subst h; simp [hi]
  · simp [h]
theorem nm_set {cs : Array Value} {i j : Nat} {k : IntKind} {n : Int} (hi : i < cs.size) : nm (cs.setIfInBounds i (.int k n)) j = if i = j then n else nm cs j := by
  unfold nm
  by_cases h : i = j
  · subst h; simp [hi]
  · simp [h]
theorem bl_seti {cs : Array Value} {i j : Nat} {k : IntKind} {n : Int} (h : i ≠ j) : bl (cs.setIfInBounds i (.int k n)) j = bl cs j := by
  unfold bl; simp [h]
theorem nm_setb {cs : Array Value} {i j : Nat} {b : Bool} (h : i ≠ j) : nm (cs.setIfInBounds i (.bool b)) j = nm cs j := by
  unfold nm; simp [h]
theorem set_same {cs : Array Value} {i : Nat} {v : Value} (h : cs[i]? = some v) : cs.setIfInBounds i v = cs := by
  apply Array.ext_getElem?
  intro j
  rw [Array.getElem?_setIfInBounds]
  split
  · rename_i e; subst e
    split
    · exact h.symm
    · rename_i hn; rw [Array.getElem?_eq_none (by omega)] at h; cases h
  · rfl

theorem VwOk.setB {cs : Array Value} (h : VwOk cs) {i : Nat} (hi : i < 8 ∨ (32 ≤ i ∧ i < 40)) (b : Bool) : VwOk (cs.setIfInBounds i (.bool b)) := by
  have hs := h.size
  refine ⟨by simpa using hs, fun j hj => ?_, fun j h1 h2 => ?_, fun j h1 h2 => ?_, ?_, ?_⟩
  · rw [bl_set (by omega), Array.getElem?_setIfInBounds]
    by_cases e : i = j
    · subst e; simp [show i < cs.size by omega]
    · simp [e, h.b j hj]
  · rw [nm_setb (by omega), Array.getElem?_setIfInBounds, if_neg (by omega)]; exact h.u8 j h1 h2
  · rw [nm_setb (by omega), Array.getElem?_setIfInBounds, if_neg (by omega)]; exact h.u16 j h1 h2
  · rw [nm_setb (by omega), Array.getElem?_setIfInBounds, if_neg (by omega)]; exact h.cmd
  · rw [nm_setb (by omega), Array.getElem?_setIfInBounds, if_neg (by omega)]; exact h.mode
theorem VwOk.set8 {cs : Array Value} (h : VwOk cs) {i : Nat} (h1 : 8 ≤ i) (h2 : i < 24) {n : Int} (hn : 0 ≤ n ∧ n < 256) : VwOk (cs.setIfInBounds i (.int .u8 n)) := by
  have hs := h.size
  refine ⟨by simpa using hs, fun j hj => ?_, fun j g1 g2 => ?_, fun j g1 g2 => ?_, ?_, ?_⟩
  · rw [bl_seti (by omega), Array.getElem?_setIfInBounds, if_neg (by omega)]; exact h.b j hj
  · rw [nm_set (by omega), Array.getElem?_setIfInBounds]
    by_cases e : i = j
    · subst e; simp [show i < cs.size by omega]; exact hn
    · simp only [e, if_false]; exact h.u8 j g1 g2
  · rw [nm_set (by omega), Array.getElem?_setIfInBounds, if_neg (by omega), if_neg (by omega)]; exact h.u16 j g1 g2
  · rw [nm_set (by omega), Array.getElem?_setIfInBounds, if_neg (by omega), if_neg (by omega)]; exact h.cmd
  · rw [nm_set (by omega), Array.getElem?_setIfInBounds, if_neg (by omega), if_neg (by omega)]; exact h.mode
theorem VwOk.set16 {cs : Array Value} (h : VwOk cs) {i : Nat} (h1 : 24 ≤ i) (h2 : i < 32) {n : Int} (hn : 0 ≤ n ∧ n < 65536) : VwOk (cs.setIfInBounds i (.int .u16 n)) := by
  have hs := h.size
  refine ⟨by simpa using hs, fun j hj => ?_, fun j g1 g2 => ?_, fun j g1 g2 => ?_, ?_, ?_⟩
  · rw [bl_seti (by omega), Array.getElem?_setIfInBounds, if_neg (by omega)]; exact h.b j hj
  · rw [nm_set (by omega), Array.getElem?_setIfInBounds, if_neg (by omega), if_neg (by omega)]; exact h.u8 j g1 g2
  · rw [nm_set (by omega), Array.getElem?_setIfInBounds]
    by_cases e : i = j
    · subst e; simp [show i < cs.size by omega]; exact hn
    · simp only [e, if_false]; exact h.u16 j g1 g2
  · rw [nm_set (by omega), Array.getElem?_setIfInBounds, if_neg (by omega), if_neg (by omega)]; exact h.cmd
  · rw [nm_set (by omega), Array.getElem?_setIfInBounds, if_neg (by omega), if_neg (by omega)]; exact h.mode
theorem VwOk.setC {cs : Array Value} (h : VwOk cs) {n : Int} (hn : -128 ≤ n ∧ n < 128) : VwOk (cs.setIfInBounds 40 (.int .i8 n)) := by
  have hs := h.size
  refine ⟨by simpa using hs, fun j hj => ?_, fun j g1 g2 => ?_, fun j g1 g2 => ?_, ?_, ?_⟩
  · rw [bl_seti (by omega), Array.getElem?_setIfInBounds, if_neg (by omega)]; exact h.b j hj
  · rw [nm_set (by omega), Array.getElem?_setIfInBounds, if_neg (by omega), if_neg (by omega)]; exact h.u8 j g1 g2
  · rw [nm_set (by omega), Array.getElem?_setIfInBounds, if_neg (by omega), if_neg (by omega)]; exact h.u16 j g1 g2
  · rw [nm_set (by omega), Array.getElem?_setIfInBounds, if_pos rfl, if_pos (by omega), if_pos rfl]; exact ⟨rfl, hn⟩
  · rw [nm_set (by omega), Array.getElem?_setIfInBounds, if_neg (by omega), if_neg (by omega)]; exact h.mode
theorem VwOk.setM {cs : Array Value} (h : VwOk cs) {n : Int} (hn : 0 ≤ n ∧ n < 256) : VwOk (cs.setIfInBounds 41 (.int .u8 n)) := by
  have hs := h.size
  refine ⟨by simpa using hs, fun j hj => ?_, fun j g1 g2 => ?_, fun j g1 g2 => ?_, ?_, ?_⟩
  · rw [bl_seti (by omega), Array.getElem?_setIfInBounds, if_neg (by omega)]; exact h.b j hj
  · rw [nm_set (by omega), Array.getElem?_setIfInBounds, if_neg (by omega), if_neg (by omega)]; exact h.u8 j g1 g2
  · rw [nm_set (by omega), Array.getElem?_setIfInBounds, if_neg (by omega), if_neg (by omega)]; exact h.u16 j g1 g2
  · rw [nm_set (by omega), Array.getElem?_setIfInBounds, if_neg (by omega), if_neg (by omega)]; exact h.cmd
  · rw [nm_set (by omega), Array.getElem?_setIfInBounds, if_pos rfl, if_pos (by omega), if_pos rfl]; exact ⟨rfl, hn⟩
theorem VwOk.one {cs : Array Value} (h : VwOk cs) : ∀ u ∈ cs.toList, u.oneCell' = true := by
  have hs := h.size
  intro u hu
  obtain ⟨i, hi, rfl⟩ := List.getElem_of_mem hu
  have hi' : i < 42 := by simpa [hs] using hi
  have e : cs[i]? = some (cs.toList[i]'hi) := by simp
  rcases Nat.lt_or_ge i 8 with g | g
  · rw [h.b i (.inl g)] at e; rw [← Option.some.inj e]; rfl
  rcases Nat.lt_or_ge i 24 with g1 | g1
  · rw [(h.u8 i g g1).1] at e; rw [← Option.some.inj e]; rfl
  rcases Nat.lt_or_ge i 32 with g2 | g2
  · rw [(h.u16 i g1 g2).1] at e; rw [← Option.some.inj e]; rfl
  rcases Nat.lt_or_ge i 40 with g3 | g3
  · rw [h.b i (.inr ⟨g2, g3⟩)] at e; rw [← Option.some.inj e]; rfl
  rcases Nat.lt_or_ge i 41 with g4 | g4
  · obtain rfl : i = 40 := by omega
    rw [h.cmd.1] at e; rw [← Option.some.inj e]; rfl
  · obtain rfl : i = 41 := by omega
    rw [h.mode.1] at e; rw [← Option.some.inj e]; rfl
theorem VwOk.all {cs : Array Value} (h : VwOk cs) : cs.all (·.oneCell') = true :=
  Array.all_eq_true_iff_forall_mem.2 fun v hv => h.one v (by simpa using hv)

/-! ### what the members' functions make of a view -/
def zeroV : Array Value := #[.bool false, .bool false, .bool false, .bool false, .bool false, .bool false, .bool false, .bool false,
  .int .u8 0, .int .u8 0, .int .u8 0, .int .u8 0, .int .u8 0, .int .u8 0, .int .u8 0, .int .u8 0, .int .u8 0, .int .u8 0, .int .u8 0, .int .u8 0, .int .u8 0, .int .u8 0, .int .u8 0, .int .u8 0,
  .int .u16 0, .int .u16 0, .int .u16 0, .int .u16 0, .int .u16 0, .int .u16 0, .int .u16 0, .int .u16 0,
  .bool false, .bool false, .bool false, .bool false, .bool false, .bool false, .bool false, .bool false, .int .i8 0, .int .u8 0]
theorem zeroV_ok : VwOk zeroV := by
  refine ⟨rfl, fun i hi => ?_, fun i h1 h2 => ?_, fun i h1 h2 => ?_, ⟨rfl, by decide, by decide⟩, ⟨rfl, by decide, by decide⟩⟩
  · have : ∀ i, i < 8 → zeroV[i]? = some (.bool (bl zeroV i)) := by
      intro i hi
      match i, hi with
      | 0, _ | 1, _ | 2, _ | 3, _ | 4, _ | 5, _ | 6, _ | 7, _ => rfl
    rcases hi with hi | ⟨h1, h2⟩
    · exact this i hi
    · obtain ⟨j, rfl⟩ : ∃ j, i = 32 + j := ⟨i - 32, by omega⟩
      have hj : j < 8 := by omega
      match j, hj with
      | 0, _ | 1, _ | 2, _ | 3, _ | 4, _ | 5, _ | 6, _ | 7, _ => rfl
  · obtain ⟨j, rfl⟩ : ∃ j, i = 8 + j := ⟨i - 8, by omega⟩
    have hj : j < 16 := by omega
    rcases Nat.lt_or_ge j 8 with hj | hj'
    · match j, hj with
      | 0, _ | 1, _ | 2, _ | 3, _ | 4, _ | 5, _ | 6, _ | 7, _ => exact ⟨rfl, by decide, by decide⟩
    · obtain ⟨j, rfl⟩ : ∃ k, j = 8 + k := ⟨j - 8, by omega⟩
      have hj : j < 8 := by omega
      match j, hj with
      | 0, _ | 1, _ | 2, _ | 3, _ | 4, _ | 5, _ | 6, _ | 7, _ => exact ⟨rfl, by decide, by decide⟩
  · obtain ⟨j, rfl⟩ : ∃ j, i = 24 + j := ⟨i - 24, by omega⟩
    have hj : j < 8 := by omega
    match j, hj with
    | 0, _ | 1, _ | 2, _ | 3, _ | 4, _ | 5, _ | 6, _ | 7, _ => exact ⟨rfl, by decide, by decide⟩

/-- f for p from 0 up to k, one behind the other. -/
def stepsV (f : Nat → Array Value → Array Value) : Nat → Array Value → Array Value
  | 0, cs => cs
  | k + 1, cs => f k (stepsV f k cs)
theorem stepsV_ok {f : Nat → Array Value → Array Value} {n : Nat} (hf : ∀ p cs, p < n → VwOk cs → VwOk (f p cs)) {cs : Array Value} (h : VwOk cs) : ∀ k, k ≤ n → VwOk (stepsV f k cs)
  | 0, _ => h
  | k + 1, hk => hf k _ (by omega) (stepsV_ok hf h k (by omega))

def firstStep (np p : Nat) (cs : Array Value) : Array Value := cs.setIfInBounds p (.bool (decide (p < np)))
def firstV (np : Nat) : Array Value := stepsV (firstStep np) 8 zeroV
theorem firstV_ok (np : Nat) : VwOk (firstV np) := stepsV_ok (n := 8) (fun _ _ hp h => h.setB (.inl hp) _) zeroV_ok 8 (Nat.le_refl _)

def emptyB (cs : Array Value) (p : Nat) : Bool := !bl cs p && (!bl cs (32 + p) && (nm cs (8 + p) == 0 && (nm cs (16 + p) == 0 && nm cs (24 + p) == 0)))
def pairOk (np : Nat) (cs : Array Value) (p : Nat) : Bool := (decide (p < np) || emptyB cs p) && (decide (nm cs (8 + p) ≤ 100) && (decide (nm cs (16 + p) ≤ 100) && decide (nm cs (24 + p) ≤ 1000)))
def mayB (np : Nat) (cs : Array Value) : Bool := decide (-1 ≤ nm cs 40) && (decide (nm cs 40 < np) && (decide (nm cs 41 ≤ 4) && (List.range 8).all (pairOk np cs)))

def heardV (np : Nat) (cs : Array Value) (pair : Int) : Array Value := if 0 ≤ pair ∧ pair < np then cs.setIfInBounds (32 + pair.toNat) (.bool true) else cs
theorem heardV_ok {np : Nat} (hn : np ≤ 8) {cs : Array Value} (h : VwOk cs) (pair : Int) : VwOk (heardV np cs pair) := by
  unfold heardV
  split
  · exact h.setB (.inr ⟨by omega, by omega⟩) _
  · exact h

def upI (x : Int) : Int := min x 99 + 1
def rewardI (x : Int) : Int := max (min x 1000) 1 - 1
def penaltyI (x : Int) : Int := min (min x 1000 + 8) 1000
def missR (cs : Array Value) (p : Nat) : Int := if bl cs (32 + p) = true then 0 else upI (nm cs (8 + p))
def goodR (cs : Array Value) (p : Nat) : Int := if bl cs (32 + p) = true then upI (nm cs (16 + p)) else 0
def scoreR (cs : Array Value) (p : Nat) : Int := if bl cs (32 + p) = true then rewardI (nm cs (24 + p)) else penaltyI (nm cs (24 + p))
def inR (miss good : Int) (cs : Array Value) (p : Nat) : Bool := if bl cs p = true then decide (missR cs p < miss) else decide (good ≤ goodR cs p)
def roundStep (miss good : Int) (p : Nat) (cs : Array Value) : Array Value :=
  ((((cs.setIfInBounds (8 + p) (.int .u8 (missR cs p))).setIfInBounds (16 + p) (.int .u8 (goodR cs p))).setIfInBounds (24 + p) (.int .u16 (scoreR cs p))).setIfInBounds p (.bool (inR miss good cs p))).setIfInBounds (32 + p) (.bool false)
theorem roundStep_ok {miss good : Int} {p : Nat} {cs : Array Value} (hp : p < 8) (h : VwOk cs) : VwOk (roundStep miss good p cs) := by
  have h1 := (h.u8 (8 + p) (by omega) (by omega)).2
  have h2 := (h.u8 (16 + p) (by omega) (by omega)).2
  have h3 := (h.u16 (24 + p) (by omega) (by omega)).2
  refine ((((h.set8 (by omega) (by omega) ?_).set8 (by omega) (by omega) ?_).set16 (by omega) (by omega) ?_).setB (.inl hp) _).setB (.inr ⟨by omega, by omega⟩) _
  · unfold missR upI; split <;> omega
  · unfold goodR upI; split <;> omega
  · unfold scoreR rewardI penaltyI; split <;> omega
def roundV (np : Nat) (miss good : Int) (cs : Array Value) : Array Value := stepsV (roundStep miss good) np cs
theorem roundV_ok {np : Nat} {miss good : Int} {cs : Array Value} (hn : np ≤ 8) (h : VwOk cs) : VwOk (roundV np miss good cs) :=
  stepsV_ok (n := 8) (fun _ _ hp h => roundStep_ok hp h) h np hn

/-! ### the order of views -/
def numAt (cs : Array Value) (i : Nat) : Int := match cs[i]? with | some (.bool b) => if b = true then 1 else 0 | some (.int _ n) => n | _ => 0
/-- Where the j-th number of the order lies. -/
def idxV (j : Nat) : Nat := if j < 40 then (if j % 5 = 0 then 0 else if j % 5 = 1 then 32 else if j % 5 = 2 then 8 else if j % 5 = 3 then 16 else 24) + j / 5 else j
def numsV (cs : Array Value) : List Int := (List.range 42).map fun j => numAt cs (idxV j)
theorem numsV_length (cs : Array Value) : (numsV cs).length = 42 := by simp [numsV]
def lessL : List Int → List Int → Bool
  | x :: xs, y :: ys => if x = y then lessL xs ys else decide (x < y)
  | _, _ => false
def lessB (a b : Array Value) : Bool := lessL (numsV a) (numsV b)
theorem lessL_irr : ∀ l, lessL l l = false
  | [] => rfl
  | x :: xs => by simp [lessL, lessL_irr xs]
theorem lessL_asymm : ∀ a b, lessL a b = true → lessL b a = false
  | [], _, h => by simp [lessL] at h
  | x :: xs, [], h => by simp [lessL] at h
  | x :: xs, y :: ys, h => by
    simp only [lessL] at h ⊢
    by_cases e : x = y
    · subst e; simp only [if_true] at h ⊢; exact lessL_asymm xs ys h
    · rw [if_neg e] at h; rw [if_neg (fun e' => e e'.symm)]; simp at h ⊢; omega
theorem lessL_trans : ∀ a b c, lessL a b = true → lessL b c = true → lessL a c = true
  | [], _, _, h, _ => by simp [lessL] at h
  | x :: xs, [], _, h, _ => by simp [lessL] at h
  | x :: xs, y :: ys, [], _, h => by simp [lessL] at h
  | x :: xs, y :: ys, z :: zs, h, k => by
    simp only [lessL] at h k ⊢
    by_cases e : x = y
    · subst e
      by_cases e2 : x = z
      · subst e2; simp only [if_true] at h k ⊢; exact lessL_trans xs ys zs h k
      · rw [if_neg e2] at k ⊢; exact k
    · rw [if_neg e] at h
      by_cases e2 : y = z
      · subst e2; rw [if_neg e]; exact h
      · rw [if_neg e2] at k
        simp at h k
        rw [if_neg (by omega)]; simp; omega
theorem lessL_total : ∀ a b, a.length = b.length → a ≠ b → (lessL a b || lessL b a) = true
  | [], [], _, h => absurd rfl h
  | [], _ :: _, h, _ => by simp at h
  | _ :: _, [], h, _ => by simp at h
  | x :: xs, y :: ys, hl, h => by
    simp only [lessL]
    by_cases e : x = y
    · subst e
      simp only [if_true]
      exact lessL_total xs ys (by simpa using hl) (fun e => h (by rw [e]))
    · rw [if_neg e, if_neg (fun e' => e e'.symm)]; simp; omega
/-- Where cell i's number stands. -/
def posV (i : Nat) : Nat := if i < 8 then 5 * i else if i < 16 then 5 * (i - 8) + 2 else if i < 24 then 5 * (i - 16) + 3 else if i < 32 then 5 * (i - 24) + 4 else if i < 40 then 5 * (i - 32) + 1 else i
theorem idx_pos : ∀ i, i < 42 → posV i < 42 ∧ idxV (posV i) = i := by decide
theorem numsV_at {cs : Array Value} {j : Nat} (h : j < 42) : (numsV cs)[j]? = some (numAt cs (idxV j)) := by simp [numsV, h]
theorem VwOk.ext {a b : Array Value} (ha : VwOk a) (hb : VwOk b) (h : numsV a = numsV b) : a = b := by
  have hn : ∀ i, i < 42 → numAt a i = numAt b i := fun i hi => by
    obtain ⟨h1, h2⟩ := idx_pos i hi
    have e1 := numsV_at (cs := a) h1
    have e2 := numsV_at (cs := b) h1
    rw [h, e2] at e1
    rw [h2] at e1
    exact (Option.some.inj e1).symm
  apply Array.ext_getElem?
  intro i
  rcases Nat.lt_or_ge i 42 with hi | hi
  · have e := hn i hi
    unfold numAt at e
    have one : ∀ {x y : Bool}, (if x = true then (1 : Int) else 0) = (if y = true then 1 else 0) → x = y := by
      intro x y; cases x <;> cases y <;> simp
    rcases Nat.lt_or_ge i 8 with g | g
    · have p := ha.b i (.inl g); have q := hb.b i (.inl g)
      rw [p, q] at e; rw [p, q]; simp only at e; rw [one e]
    rcases Nat.lt_or_ge i 24 with g1 | g1
    · have p := (ha.u8 i g g1).1; have q := (hb.u8 i g g1).1
      rw [p, q] at e; rw [p, q]; simp only at e; rw [e]
    rcases Nat.lt_or_ge i 32 with g2 | g2
    · have p := (ha.u16 i g1 g2).1; have q := (hb.u16 i g1 g2).1
      rw [p, q] at e; rw [p, q]; simp only at e; rw [e]
    rcases Nat.lt_or_ge i 40 with g3 | g3
    · have p := ha.b i (.inr ⟨g2, g3⟩); have q := hb.b i (.inr ⟨g2, g3⟩)
      rw [p, q] at e; rw [p, q]; simp only at e; rw [one e]
    rcases Nat.lt_or_ge i 41 with g4 | g4
    · obtain rfl : i = 40 := by omega
      have p := ha.cmd.1; have q := hb.cmd.1
      rw [p, q] at e; rw [p, q]; simp only at e; rw [e]
    · obtain rfl : i = 41 := by omega
      have p := ha.mode.1; have q := hb.mode.1
      rw [p, q] at e; rw [p, q]; simp only at e; rw [e]
  · rw [Array.getElem?_eq_none (by have := ha.size; omega), Array.getElem?_eq_none (by have := hb.size; omega)]
theorem lessB_total {a b : Array Value} (ha : VwOk a) (hb : VwOk b) (h : a ≠ b) : (lessB a b || lessB b a) = true :=
  lessL_total _ _ (by rw [numsV_length, numsV_length]) (fun e => h (ha.ext hb e))
end Go.Proofs.YtbmbaalidehoeaaDoor.K
