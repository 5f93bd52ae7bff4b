/- The best of a list of things with counts does not hang on the list's order. Plain facts; no program stands here. -/
import Derived.Test.YtbmbaalidehoeaaDoorView
namespace Go.Proofs.YtbmbaalidehoeaaDoor.K

theorem snoc_ind {β : Type} {P : List β → Prop} (h0 : P []) (h1 : ∀ l a, P l → P (l ++ [a])) (l : List β) : P l := by
  have : ∀ m : List β, P m.reverse := by
    intro m
    induction m with
    | nil => exact h0
    | cons a m ih => rw [List.reverse_cons]; exact h1 _ _ ih
  simpa using this l.reverse
section
variable {α : Type} (less : α → α → Bool)
def beats (e s : α × Nat) : Bool := decide (s.2 < e.2) || (e.2 == s.2 && less e.1 s.1)
def pick (s e : α × Nat) : α × Nat := if beats less e s = true then e else s
def pickAll (d : α) (l : List (α × Nat)) : α × Nat := l.foldl (pick less) (d, 0)

theorem pickAll_snoc (d : α) (l : List (α × Nat)) (e : α × Nat) : pickAll less d (l ++ [e]) = pick less (pickAll less d l) e := by simp [pickAll]

variable {less} {Ok : α → Prop}
structure Order (less : α → α → Bool) (Ok : α → Prop) : Prop where
  irr : ∀ a, less a a = false
  asymm : ∀ a b, less a b = true → less b a = false
  trans : ∀ a b c, less a b = true → less b c = true → less a c = true
  total : ∀ a b, Ok a → Ok b → a ≠ b → (less a b || less b a) = true

theorem pickAll_max (O : Order less Ok) (d : α) : ∀ (l : List (α × Nat)), (∀ e ∈ l, Ok e.1 ∧ 1 ≤ e.2) →
    (l = [] ∧ pickAll less d l = (d, 0)) ∨ (pickAll less d l ∈ l ∧ ∀ e ∈ l, e = pickAll less d l ∨ beats less (pickAll less d l) e = true) := by
  intro l
  refine snoc_ind (P := fun l => (∀ e ∈ l, Ok e.1 ∧ 1 ≤ e.2) → (l = [] ∧ pickAll less d l = (d, 0)) ∨ (pickAll less d l ∈ l ∧ ∀ e ∈ l, e = pickAll less d l ∨ beats less (pickAll less d l) e = true)) ?_ ?_ l
  · intro _; exact .inl ⟨rfl, rfl⟩
  · intro l x ih h
    right
    rw [pickAll_snoc]
    have hx := h x (by simp)
    rcases ih (fun e he => h e (by simp [he])) with ⟨rfl, h0⟩ | ⟨hm, hall⟩
    · rw [h0]
      have : beats less x (d, 0) = true := by simp [beats]; left; omega
      simp [pick, this]
    · generalize hs : pickAll less d l = s at hm hall
      have hso := h s (by simp [hm])
      unfold pick
      by_cases hb : beats less x s = true
      · rw [if_pos hb]
        refine ⟨by simp, fun e he => ?_⟩
        rcases List.mem_append.1 he with he | he
        · right
          rcases hall e he with rfl | he2
          · exact hb
          · simp only [beats, Bool.or_eq_true, decide_eq_true_eq, Bool.and_eq_true, beq_iff_eq] at hb he2 ⊢
            rcases hb with hb | ⟨hb1, hb2⟩ <;> rcases he2 with g | ⟨g1, g2⟩
            · left; omega
            · left; omega
            · left; omega
            · right; exact ⟨by omega, O.trans _ _ _ hb2 g2⟩
        · left; simpa using he
      · rw [if_neg hb]
        refine ⟨by simp [hm], fun e he => ?_⟩
        rcases List.mem_append.1 he with he | he
        · exact hall e he
        · obtain rfl : e = x := by simpa using he
          by_cases hne : e = s
          · exact .inl hne
          · right
            have hb' : beats less e s = false := by simpa using hb
            simp only [beats, Bool.or_eq_false_iff, decide_eq_false_iff_not, Bool.and_eq_false_iff, beq_eq_false_iff_ne, ne_eq, Bool.or_eq_true, decide_eq_true_eq, Bool.and_eq_true, beq_iff_eq] at hb' ⊢
            by_cases hk : e.2 = s.2
            · right
              refine ⟨hk.symm, ?_⟩
              have hn1 : e.1 ≠ s.1 := fun e1 => hne (Prod.ext e1 hk)
              have ht := O.total _ _ hx.1 hso.1 hn1
              rcases hb'.2 with g | g
              · exact absurd hk g
              · rw [g] at ht; simpa using ht
            · left; omega
/-- Two lists with the same members give the same best. -/
theorem pickAll_same (O : Order less Ok) (d : α) {l m : List (α × Nat)} (hl : ∀ e ∈ l, Ok e.1 ∧ 1 ≤ e.2) (h : ∀ e, e ∈ l ↔ e ∈ m) : pickAll less d l = pickAll less d m := by
  have hm : ∀ e ∈ m, Ok e.1 ∧ 1 ≤ e.2 := fun e he => hl e ((h e).2 he)
  rcases pickAll_max O d l hl with ⟨rfl, h1⟩ | ⟨h1, h1'⟩ <;> rcases pickAll_max O d m hm with ⟨rfl, h2⟩ | ⟨h2, h2'⟩
  · rfl
  · exact absurd ((h _).2 h2) (by simp)
  · exact absurd ((h _).1 h1) (by simp)
  · have a := h1' _ ((h _).2 h2)
    have b := h2' _ ((h _).1 h1)
    rcases a with a | a
    · exact a.symm
    · rcases b with b | b
      · exact b
      · exfalso
        simp only [beats, Bool.or_eq_true, decide_eq_true_eq, Bool.and_eq_true, beq_iff_eq] at a b
        rcases a with a | ⟨a1, a2⟩ <;> rcases b with b | ⟨b1, b2⟩
        · omega
        · omega
        · omega
        · rw [O.asymm _ _ a2] at b2; cases b2
end
theorem lessB_order : Order lessB VwOk :=
  ⟨fun _ => lessL_irr _, fun _ _ => lessL_asymm _ _, fun _ _ _ => lessL_trans _ _ _, fun _ _ ha hb h => lessB_total ha hb h⟩
end Go.Proofs.YtbmbaalidehoeaaDoor.K
