/- Rounds of a view: what each leaves of each pair. Plain facts; no program stands here. -/
import Derived.Test.YtbmbaalidehoeaaDoorView
namespace Go.Proofs.YtbmbaalidehoeaaDoor.K
open Go.RowKit

/-- The cells of pair q. -/
def cellsOf (q i : Nat) : Prop := i = q ∨ i = 8 + q ∨ i = 16 + q ∨ i = 24 + q ∨ i = 32 + q
theorem rs_other {miss good : Int} {p : Nat} {cs : Array Value} {i : Nat} (h : ¬ cellsOf p i) : (roundStep miss good p cs)[i]? = cs[i]? := by
  unfold cellsOf at h
  unfold roundStep
  rw [Array.getElem?_setIfInBounds, if_neg (by omega), Array.getElem?_setIfInBounds, if_neg (by omega), Array.getElem?_setIfInBounds, if_neg (by omega), Array.getElem?_setIfInBounds, if_neg (by omega), Array.getElem?_setIfInBounds, if_neg (by omega)]
theorem rs_size {miss good : Int} {p : Nat} {cs : Array Value} : (roundStep miss good p cs).size = cs.size := by simp [roundStep]
theorem rounds_size {miss good : Int} {cs : Array Value} : ∀ k, (stepsV (roundStep miss good) k cs).size = cs.size
  | 0 => rfl
  | k + 1 => by rw [stepsV, rs_size, rounds_size k]
theorem rounds_later {miss good : Int} {cs : Array Value} {i : Nat} : ∀ k, (∀ p, p < k → ¬ cellsOf p i) → (stepsV (roundStep miss good) k cs)[i]? = cs[i]?
  | 0, _ => rfl
  | k + 1, h => by rw [stepsV, rs_other (h k (by omega)), rounds_later k fun p hp => h p (by omega)]
theorem cells_apart {p q i : Nat} (hq : q < 8) (hp : p < 8) (h : cellsOf q i) (hne : p ≠ q) : ¬ cellsOf p i := by
  unfold cellsOf at *; omega
/-- What a round leaves of pair q. -/
theorem round_at {np : Nat} {miss good : Int} {cs : Array Value} (hs : cs.size = 42) (hn : np ≤ 8) {q : Nat} (hq : q < np) :
    bl (roundV np miss good cs) q = inR miss good cs q ∧ nm (roundV np miss good cs) (8 + q) = missR cs q ∧ nm (roundV np miss good cs) (16 + q) = goodR cs q ∧ nm (roundV np miss good cs) (24 + q) = scoreR cs q ∧ bl (roundV np miss good cs) (32 + q) = false := by
  have key : ∀ k, q < k → k ≤ np → ∀ i, cellsOf q i → (stepsV (roundStep miss good) k cs)[i]? = (roundStep miss good q (stepsV (roundStep miss good) q cs))[i]? := by
    intro k
    induction k with
    | zero => intro h; omega
    | succ k ih =>
      intro h hk i hi
      by_cases e : k = q
      · subst e; rfl
      · rw [stepsV, rs_other (cells_apart (by omega) (by omega) hi e)]
        exact ih (by omega) (by omega) i hi
  have pre : ∀ i, cellsOf q i → (stepsV (roundStep miss good) q cs)[i]? = cs[i]? := fun i hi => rounds_later q fun p hp => cells_apart (by omega) (by omega) hi (by omega)
  have bpre : ∀ i, cellsOf q i → bl (stepsV (roundStep miss good) q cs) i = bl cs i := fun i hi => by unfold bl; rw [pre i hi]
  have npre : ∀ i, cellsOf q i → nm (stepsV (roundStep miss good) q cs) i = nm cs i := fun i hi => by unfold nm; rw [pre i hi]
  have hsz : (stepsV (roundStep miss good) q cs).size = 42 := by rw [rounds_size, hs]
  generalize hC : stepsV (roundStep miss good) q cs = C at *
  have eM : missR C q = missR cs q := by unfold missR; rw [bpre _ (by unfold cellsOf; omega), npre _ (by unfold cellsOf; omega)]
  have eG : goodR C q = goodR cs q := by unfold goodR; rw [bpre _ (by unfold cellsOf; omega), npre _ (by unfold cellsOf; omega)]
  have eS : scoreR C q = scoreR cs q := by unfold scoreR; rw [bpre _ (by unfold cellsOf; omega), npre _ (by unfold cellsOf; omega)]
  have eI : inR miss good C q = inR miss good cs q := by unfold inR; rw [eM, eG, bpre _ (by unfold cellsOf; omega)]
  have bk : ∀ i, cellsOf q i → bl (roundV np miss good cs) i = bl (roundStep miss good q C) i := fun i hi => by unfold bl roundV; rw [key np hq (Nat.le_refl _) i hi]
  have nk : ∀ i, cellsOf q i → nm (roundV np miss good cs) i = nm (roundStep miss good q C) i := fun i hi => by unfold nm roundV; rw [key np hq (Nat.le_refl _) i hi]
  rw [bk q (by unfold cellsOf; omega), nk (8 + q) (by unfold cellsOf; omega), nk (16 + q) (by unfold cellsOf; omega), nk (24 + q) (by unfold cellsOf; omega), bk (32 + q) (by unfold cellsOf; omega)]
  unfold roundStep
  refine ⟨?_, ?_, ?_, ?_, ?_⟩
  · rw [bl_set (by simp; omega), if_neg (by omega), bl_set (by simp; omega), if_pos rfl, eI]
  · rw [nm_setb (by omega), nm_setb (by omega), nm_set (by simp; omega), if_neg (by omega), nm_set (by simp; omega), if_neg (by omega), nm_set (by omega), if_pos rfl, eM]
  · rw [nm_setb (by omega), nm_setb (by omega), nm_set (by simp; omega), if_neg (by omega), nm_set (by simp; omega), if_pos rfl, eG]
  · rw [nm_setb (by omega), nm_setb (by omega), nm_set (by simp; omega), if_pos rfl, eS]
  · rw [bl_set (by simp; omega), if_pos rfl]
/-- .. and what it lets be. -/
theorem round_off {np : Nat} {miss good : Int} {cs : Array Value} {i : Nat} (h : ∀ p, p < np → ¬ cellsOf p i) : (roundV np miss good cs)[i]? = cs[i]? := rounds_later np h

/-- Bit p of a number. -/
def bitB (r : Int) (p : Nat) : Bool := decide (r / 2 ^ p % 2 = 1)
def hearStep (np : Nat) (r : Int) (p : Nat) (cs : Array Value) : Array Value := if bitB r p = true then heardV np cs p else cs
def hearK (np : Nat) (r : Int) (k : Nat) (cs : Array Value) : Array Value := stepsV (hearStep np r) k cs
theorem hearStep_ok {np : Nat} (hn : np ≤ 8) {r : Int} {p : Nat} {cs : Array Value} (h : VwOk cs) : VwOk (hearStep np r p cs) := by
  unfold hearStep; split
  · exact heardV_ok hn h _
  · exact h
theorem hearK_ok {np : Nat} (hn : np ≤ 8) {r : Int} {cs : Array Value} (h : VwOk cs) (k : Nat) (hk : k ≤ 8) : VwOk (hearK np r k cs) := stepsV_ok (n := 8) (fun _ _ _ h => hearStep_ok hn h) h k hk
theorem hearK_off {np : Nat} {r : Int} {cs : Array Value} {i : Nat} : ∀ k, (∀ p, p < k → i ≠ 32 + p) → (hearK np r k cs)[i]? = cs[i]?
  | 0, _ => rfl
  | k + 1, h => by
    show (hearStep np r k (hearK np r k cs))[i]? = _
    have ih := hearK_off (np := np) (r := r) (cs := cs) (i := i) k fun p hp => h p (by omega)
    unfold hearStep heardV
    split
    · split
      · rw [Array.getElem?_setIfInBounds, if_neg (by have := h k (by omega); simp; omega)]; exact ih
      · exact ih
    · exact ih
theorem hearK_size {np : Nat} {r : Int} {cs : Array Value} : ∀ k, (hearK np r k cs).size = cs.size
  | 0 => rfl
  | k + 1 => by
    show (hearStep np r k (hearK np r k cs)).size = _
    unfold hearStep heardV
    split
    · split
      · simp [hearK_size k]
      · exact hearK_size k
    · exact hearK_size k
theorem hearK_got {np : Nat} {r : Int} {cs : Array Value} (hs : cs.size = 42) {q : Nat} (hq : q < 8) : ∀ k, q < k → k ≤ 8 → bl (hearK np r k cs) (32 + q) = (bl cs (32 + q) || (bitB r q && decide (q < np)))
  | 0, h, _ => by omega
  | k + 1, h, hk => by
    have hsz : (hearK np r k cs).size = 42 := by rw [hearK_size, hs]
    show bl (hearStep np r k (hearK np r k cs)) (32 + q) = _
    by_cases e : k = q
    · subst e
      have pre : bl (hearK np r k cs) (32 + k) = bl cs (32 + k) := by unfold bl; rw [hearK_off k fun p hp => by omega]
      unfold hearStep heardV
      cases hb : bitB r k
      · simp [pre]
      · simp only [if_true, Bool.true_and]
        by_cases hn : k < np
        · rw [if_pos ⟨by omega, by omega⟩, show 32 + (k : Int).toNat = 32 + k by simp, bl_set (by omega), if_pos rfl]; simp [hn]
        · rw [if_neg (by omega), pre]; simp [hn]
    · have ih := hearK_got (np := np) (r := r) (cs := cs) hs hq k (by omega) (by omega)
      rw [← ih]
      unfold hearStep heardV
      split
      · split
        · rw [bl_set (by simp; omega), if_neg (by simp; omega)]
        · rfl
      · rfl

/-- Got of nobody. -/
def bareStep (p : Nat) (cs : Array Value) : Array Value := cs.setIfInBounds (32 + p) (.bool false)
def bareV (k : Nat) (cs : Array Value) : Array Value := stepsV bareStep k cs
theorem bareV_ok {cs : Array Value} (h : VwOk cs) (k : Nat) (hk : k ≤ 8) : VwOk (bareV k cs) := stepsV_ok (n := 8) (fun _ _ hp h => h.setB (.inr ⟨by omega, by omega⟩) _) h k hk
theorem bareV_off {cs : Array Value} {i : Nat} : ∀ k, (∀ p, p < k → i ≠ 32 + p) → (bareV k cs)[i]? = cs[i]?
  | 0, _ => rfl
  | k + 1, h => by
    show (bareStep k (bareV k cs))[i]? = _
    unfold bareStep
    rw [Array.getElem?_setIfInBounds, if_neg (by have := h k (by omega); omega)]
    exact bareV_off k fun p hp => h p (by omega)
theorem bareV_size {cs : Array Value} : ∀ k, (bareV k cs).size = cs.size
  | 0 => rfl
  | k + 1 => by show (bareStep k (bareV k cs)).size = _; simp [bareStep, bareV_size k]
theorem bareV_got {cs : Array Value} (hs : cs.size = 42) {q : Nat} : ∀ k, q < k → k ≤ 8 → bl (bareV k cs) (32 + q) = false
  | 0, h, _ => by omega
  | k + 1, h, hk => by
    have hsz : (bareV k cs).size = 42 := by rw [bareV_size, hs]
    show bl (bareStep k (bareV k cs)) (32 + q) = _
    unfold bareStep
    rw [bl_set (by omega)]
    by_cases e : k = q
    · subst e; rw [if_pos rfl]
    · rw [if_neg (by omega)]; exact bareV_got hs k (by omega) (by omega)

/-! ### many rounds -/
section
variable (np : Nat) (miss good : Int) (rs : List Int)
def stepR (i : Nat) (cs : Array Value) : Array Value := roundV np miss good (hearK np (rs[i]?.getD 0) 8 cs)
def runV (k : Nat) (cs : Array Value) : Array Value := stepsV (stepR np miss good rs) k cs
/-- How often a pair was delivered in a row, was not. -/
def goodN (g0 : Int) (q : Nat) : Nat → Int
  | 0 => g0
  | k + 1 => if q < np then (if bitB (rs[k]?.getD 0) q = true then goodN g0 q k + 1 else 0) else goodN g0 q k
def missN (m0 : Int) (q : Nat) : Nat → Int
  | 0 => m0
  | k + 1 => if q < np then (if bitB (rs[k]?.getD 0) q = true then 0 else missN m0 q k + 1) else missN m0 q k
end
structure RunInv (np : Nat) (cs v : Array Value) (G M : Nat → Int) : Prop where
  ok : VwOk v
  may : mayB np v = true
  got : ∀ q, q < 8 → bl v (32 + q) = false
  cmd : nm v 40 = nm cs 40
  mode : nm v 41 = nm cs 41
  g : ∀ q, q < np → 0 ≤ G q ∧ nm v (16 + q) = min (G q) 100
  m : ∀ q, q < np → 0 ≤ M q ∧ nm v (8 + q) = min (M q) 100
theorem mayB_spec {np : Nat} {cs : Array Value} : mayB np cs = true ↔ (-1 ≤ nm cs 40 ∧ nm cs 40 < np ∧ nm cs 41 ≤ 4) ∧ ∀ p, p < 8 → pairOk np cs p = true := by
  unfold mayB
  simp only [Bool.and_eq_true, decide_eq_true_eq, List.all_eq_true, List.mem_range]
  constructor
  · rintro ⟨a, b, c, d⟩; exact ⟨⟨a, b, c⟩, d⟩
  · rintro ⟨⟨a, b, c⟩, d⟩; exact ⟨a, b, c, d⟩
theorem run_start {np : Nat} {cs : Array Value} (hn : np ≤ 8) (h : VwOk cs) (hm : mayB np cs = true) : RunInv np cs (bareV 8 cs) (fun q => nm cs (16 + q)) (fun q => nm cs (8 + q)) := by
  have hs := h.size
  have off : ∀ i, i < 32 ∨ 40 ≤ i → (bareV 8 cs)[i]? = cs[i]? := fun i hi => bareV_off 8 fun p hp => by omega
  have nb : ∀ i, i < 32 ∨ 40 ≤ i → nm (bareV 8 cs) i = nm cs i := fun i hi => by unfold nm; rw [off i hi]
  have bb : ∀ i, i < 32 ∨ 40 ≤ i → bl (bareV 8 cs) i = bl cs i := fun i hi => by unfold bl; rw [off i hi]
  obtain ⟨h1, h2⟩ := mayB_spec.1 hm
  have got : ∀ q, q < 8 → bl (bareV 8 cs) (32 + q) = false := fun q hq => bareV_got hs 8 hq (Nat.le_refl _)
  refine ⟨bareV_ok h 8 (Nat.le_refl _), mayB_spec.2 ⟨by rw [nb 40 (by omega), nb 41 (by omega)]; exact h1, fun p hp => ?_⟩, got, nb 40 (by omega), nb 41 (by omega), fun q hq => ?_, fun q hq => ?_⟩
  · have := h2 p hp
    unfold pairOk emptyB at this ⊢
    rw [nb _ (by omega), nb _ (by omega), nb _ (by omega), bb p (by omega), got p hp]
    revert this
    cases decide (p < np) <;> cases bl cs p <;> cases bl cs (32 + p) <;> simp
  · have := h2 q (by omega)
    have hb := (h.u8 (16 + q) (by omega) (by omega)).2
    simp only [pairOk, Bool.and_eq_true, decide_eq_true_eq] at this
    exact ⟨hb.1, by rw [nb _ (by omega)]; omega⟩
  · have := h2 q (by omega)
    have hb := (h.u8 (8 + q) (by omega) (by omega)).2
    simp only [pairOk, Bool.and_eq_true, decide_eq_true_eq] at this
    exact ⟨hb.1, by rw [nb _ (by omega)]; omega⟩
/-- One round more; and whether each pair is in. -/
theorem run_step {np : Nat} {miss good : Int} {r : Int} {cs v : Array Value} {G M : Nat → Int} (hn : np ≤ 8) (c1 : 1 ≤ miss ∧ miss ≤ 100) (c2 : 1 ≤ good ∧ good ≤ 100) (h : RunInv np cs v G M) :
    RunInv np cs (roundV np miss good (hearK np r 8 v)) (fun q => if q < np then (if bitB r q = true then G q + 1 else 0) else G q) (fun q => if q < np then (if bitB r q = true then 0 else M q + 1) else M q) ∧
    ∀ q, q < np → bl (roundV np miss good (hearK np r 8 v)) q = ((bl v q && decide ((if bitB r q = true then 0 else M q + 1) < miss)) || (!bl v q && decide (good ≤ (if bitB r q = true then G q + 1 else 0)))) := by
  have hs := h.ok.size
  have ho := hearK_ok hn (r := r) h.ok 8 (Nat.le_refl _)
  have hs2 := ho.size
  have hoff : ∀ i, i < 32 ∨ 40 ≤ i → (hearK np r 8 v)[i]? = v[i]? := fun i hi => hearK_off 8 fun p hp => by omega
  have hnm : ∀ i, i < 32 ∨ 40 ≤ i → nm (hearK np r 8 v) i = nm v i := fun i hi => by unfold nm; rw [hoff i hi]
  have hbl : ∀ i, i < 32 ∨ 40 ≤ i → bl (hearK np r 8 v) i = bl v i := fun i hi => by unfold bl; rw [hoff i hi]
  have hgot : ∀ q, q < 8 → bl (hearK np r 8 v) (32 + q) = (bitB r q && decide (q < np)) := fun q hq => by rw [hearK_got hs hq 8 hq (Nat.le_refl _), h.got q hq]; simp
  have RA := fun q (hq : q < np) => round_at (miss := miss) (good := good) hs2 hn hq
  have mR : ∀ q, q < np → missR (hearK np r 8 v) q = if bitB r q = true then 0 else upI (nm v (8 + q)) := fun q hq => by unfold missR; rw [hgot q (by omega), hnm _ (by omega)]; simp [hq]
  have gR : ∀ q, q < np → goodR (hearK np r 8 v) q = if bitB r q = true then upI (nm v (16 + q)) else 0 := fun q hq => by unfold goodR; rw [hgot q (by omega), hnm _ (by omega)]; simp [hq]
  have up : ∀ x : Int, 0 ≤ x → upI (min x 100) = min (x + 1) 100 := fun x hx => by unfold upI; omega
  have mR' : ∀ q, q < np → missR (hearK np r 8 v) q = min (if bitB r q = true then 0 else M q + 1) 100 := fun q hq => by
    rw [mR q hq, (h.m q hq).2, up _ (h.m q hq).1]; split <;> omega
  have gR' : ∀ q, q < np → goodR (hearK np r 8 v) q = min (if bitB r q = true then G q + 1 else 0) 100 := fun q hq => by
    rw [gR q hq, (h.g q hq).2, up _ (h.g q hq).1]; split <;> omega
  have offP : ∀ q, np ≤ q → q < 8 → ∀ i, cellsOf q i → (roundV np miss good (hearK np r 8 v))[i]? = (hearK np r 8 v)[i]? := fun q hq hq8 i hi => round_off fun p hp => cells_apart (q := q) hq8 (by omega) hi (by omega)
  have off40 : ∀ i, 40 ≤ i → (roundV np miss good (hearK np r 8 v))[i]? = (hearK np r 8 v)[i]? := fun i hi => round_off fun p hp => by unfold cellsOf; omega
  have e40 : nm (roundV np miss good (hearK np r 8 v)) 40 = nm v 40 := by unfold nm; rw [off40 40 (by omega), hoff 40 (by omega)]
  have e41 : nm (roundV np miss good (hearK np r 8 v)) 41 = nm v 41 := by unfold nm; rw [off40 41 (by omega), hoff 41 (by omega)]
  obtain ⟨m1, m2⟩ := mayB_spec.1 h.may
  have got' : ∀ q, q < 8 → bl (roundV np miss good (hearK np r 8 v)) (32 + q) = false := fun q hq => by
    by_cases g : q < np
    · exact (RA q g).2.2.2.2
    · have := hgot q hq
      unfold bl at this ⊢
      rw [offP q (by omega) hq (32 + q) (by unfold cellsOf; omega)]
      rw [this]; simp [g]
  refine ⟨⟨roundV_ok hn ho, mayB_spec.2 ⟨by rw [e40, e41]; exact m1, fun p hp => ?_⟩, got', by rw [e40, h.cmd], by rw [e41, h.mode], fun q hq => ?_, fun q hq => ?_⟩, fun q hq => ?_⟩
  · by_cases g : p < np
    · obtain ⟨a1, a2, a3, a4, a5⟩ := RA p g
      have sR : scoreR (hearK np r 8 v) p ≤ 1000 := by unfold scoreR rewardI penaltyI; split <;> omega
      unfold pairOk
      rw [a2, a3, a4, mR' p g, gR' p g]
      simp [g, sR]
      omega
    · have eqs : ∀ i, cellsOf p i → (roundV np miss good (hearK np r 8 v))[i]? = (hearK np r 8 v)[i]? := offP p (by omega) hp
      have nq : ∀ i, cellsOf p i → i < 32 → nm (roundV np miss good (hearK np r 8 v)) i = nm v i := fun i hi h32 => by unfold nm; rw [eqs i hi, hoff i (.inl h32)]
      have bq : bl (roundV np miss good (hearK np r 8 v)) p = bl v p := by unfold bl; rw [eqs p (by unfold cellsOf; omega), hoff p (by omega)]
      have := m2 p hp
      unfold pairOk emptyB at this ⊢
      rw [nq _ (by unfold cellsOf; omega) (by omega), nq _ (by unfold cellsOf; omega) (by omega), nq _ (by unfold cellsOf; omega) (by omega), bq, got' p hp]
      rw [h.got p hp] at this
      exact this
  · simp only [if_pos hq]
    refine ⟨?_, by rw [(RA q hq).2.2.1, gR' q hq]⟩
    have := (h.g q hq).1
    split <;> omega
  · simp only [if_pos hq]
    refine ⟨?_, by rw [(RA q hq).2.1, mR' q hq]⟩
    have := (h.m q hq).1
    split <;> omega
  · rw [(RA q hq).1, inR, mR' q hq, gR' q hq, hbl q (by omega)]
    cases bl v q
    · simp only [Bool.false_eq_true, if_false, Bool.false_and, Bool.false_or, Bool.not_false, Bool.true_and, decide_eq_decide]
      omega
    · simp only [if_true, Bool.true_and, Bool.not_true, Bool.false_and, Bool.or_false, decide_eq_decide]
      omega
end Go.Proofs.YtbmbaalidehoeaaDoor.K
