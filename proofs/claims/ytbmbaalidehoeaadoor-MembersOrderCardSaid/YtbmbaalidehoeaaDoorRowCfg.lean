/- Arguments opened: slices of structs, slices of ints, a config. -/
import Derived.Test.YtbmbaalidehoeaaDoorFlat
import Derived.Test.YtbmbaalidehoeaaDoorNew
namespace Go.Proofs.YtbmbaalidehoeaaDoor.K
open Go.ChangeShapes Go.WideShapes Go.RowKit Go.Deep

section
variable {H : Type} {enc : TypeId × Value → H} {P : Program} {w : World} {base : Nat} {spare : Nat → Bool} {held : Bool}
theorem flatten_at {k : Nat} (hk : 0 < k) : ∀ {rows : List (List Value)}, (∀ l ∈ rows, l.length = k) → ∀ j, rows.flatten[j]? = (rows[j / k]?).bind fun l => l[j % k]? := by
  intro rows
  induction rows with
  | nil => intro _ j; simp
  | cons l rows ih =>
    intro h j
    have hl : l.length = k := h l (by simp)
    rw [List.flatten_cons, List.getElem?_append]
    by_cases hj : j < k
    · rw [if_pos (by omega), Nat.div_eq_of_lt hj, Nat.mod_eq_of_lt hj]; rfl
    · rw [if_neg (by omega), hl, ih (fun l hl => h l (by simp [hl]))]
      obtain ⟨i, rfl⟩ : ∃ i, j = i + k := ⟨j - k, by omega⟩
      rw [Nat.add_sub_cancel, Nat.add_div_right _ hk, Nat.add_mod_right]
      rfl
theorem rows_of {α : Type} (f : α → List Value) (Pr : α → Prop) : ∀ {rows : List (List Value)}, (∀ l ∈ rows, ∃ a, l = f a ∧ Pr a) → ∃ zs : List α, rows = zs.map f ∧ ∀ a ∈ zs, Pr a := by
  intro rows
  induction rows with
  | nil => intro _; exact ⟨[], rfl, by simp⟩
  | cons l rows ih =>
    intro h
    obtain ⟨a, ha, pa⟩ := h l (by simp)
    obtain ⟨zs, has, pas⟩ := ih fun l hl => h l (by simp [hl])
    exact ⟨a :: zs, by rw [ha, has]; rfl, by intro b hb; rcases List.mem_cons.1 hb with rfl | hb; exact pa; exact pas b hb⟩

/-- A slice that came in: its rows. -/
theorem open_rows {t e : TypeId} {fuel : Nat} {cs : List Value} {x : DataW H × List MemPlace} (ht : P.underlying t = some (.slice e)) (hk : 0 < P.cellsOf e) (h : DataW.trod enc P w base spare held fuel t cs = some x) :
    ∃ (A : Option Addr) (c : Nat) (rows : List (List Value)), cs = [.slice A rows.length c] ∧ (A = none → rows.length = 0) ∧ rows.length ≤ maxLen ∧ RdV w A rows.flatten ∧ ∀ l ∈ rows, l.length = P.cellsOf e ∧ ∃ n y, DataW.trod enc P w base spare held n e l = some y := by
  rcases open_slice ht h with ⟨rfl, _⟩ | ⟨a, len, cap, m, n, D, Pl, rfl, _, hlc, hcm, hm, _, hi⟩
  · exact ⟨none, 0, [], rfl, fun _ => rfl, by simp, fun h => absurd rfl h, by simp⟩
  · have hlm : len ≤ m := by rw [hm]; split <;> omega
    have hall : ∀ i, ∃ cs' : List Value, i < len → w.cells? base (a.add (i * P.cellsOf e)) (P.cellsOf e) = some cs' ∧ DataW.trod enc P w base spare held n e cs' = some (D i, Pl i) := fun i => by
      by_cases h : i < len
      · obtain ⟨cs', h1, h2⟩ := hi i (by omega)
        exact ⟨cs', fun _ => ⟨h1, h2⟩⟩
      · exact ⟨[], fun h' => absurd h' h⟩
    refine ⟨some a, cap, (List.range len).map fun i => Classical.choose (hall i), by simp, (fun h => by cases h), by simp; omega, ?_, ?_⟩
    · have hrl : ∀ l ∈ (List.range len).map (fun i => Classical.choose (hall i)), l.length = P.cellsOf e := by
        intro l hl
        simp only [List.mem_map, List.mem_range] at hl
        obtain ⟨i, hil, rfl⟩ := hl
        exact (World.cells?_some (Classical.choose_spec (hall i) hil).1).2.1
      intro hne
      have h0 : 0 < len := by
        rcases Nat.eq_zero_or_pos len with h | h
        · subst h; simp at hne
        · exact h
      have hcell : ∀ j u, (((List.range len).map fun i => Classical.choose (hall i)).flatten)[j]? = some u → w.cell? (a.add j) = some u := by
        intro j u hj
        rw [flatten_at hk hrl] at hj
        by_cases hd : j / P.cellsOf e < len
        · rw [List.getElem?_map, List.getElem?_range hd] at hj
          simp only [Option.map_some, Option.bind_some] at hj
          have h1 := (World.cells?_some (Classical.choose_spec (hall (j / P.cellsOf e)) hd).1).2.2 (j % P.cellsOf e) (Nat.mod_lt _ hk)
          rw [hj, Go.Deep.add_add] at h1
          have := Nat.div_add_mod j (P.cellsOf e)
          rw [Nat.mul_comm] at this
          rwa [this] at h1
        · rw [List.getElem?_eq_none (by simp; omega)] at hj
          cases hj
      obtain ⟨b, off, spot⟩ := a
      have hspot : spot = none := by
        have h1 := (World.cells?_some (Classical.choose_spec (hall 0) h0).1).2.2 0 hk
        have hl0 := (World.cells?_some (Classical.choose_spec (hall 0) h0).1).2.1
        rw [List.getElem?_eq_getElem (by omega)] at h1
        simpa [Addr.add] using World.cell?_spot h1
      subst hspot
      exact ⟨b, off, rfl, fun j u hj => by rw [← add_plain]; exact hcell j u hj⟩
    · intro l hl
      simp only [List.mem_map, List.mem_range] at hl
      obtain ⟨i, hil, rfl⟩ := hl
      exact ⟨(World.cells?_some (Classical.choose_spec (hall i) hil).1).2.1, _, _, (Classical.choose_spec (hall i) hil).2⟩
theorem flat_ints (xs : List Int) : (xs.map fun x : Int => [Value.int .i64 x]).flatten = xs.map (Value.int .i64) := by
  induction xs with
  | nil => rfl
  | cons x xs ih => simp only [List.map_cons, List.flatten_cons, List.singleton_append, ih]
/-- A slice of ints that came in. -/
theorem open_rdI {t e : TypeId} {fuel : Nat} {cs : List Value} {x : DataW H × List MemPlace} (ht : P.underlying t = some (.slice e)) (he : P.underlying e = some (.int .i64)) (hc : P.cellsOf e = 1) (h : DataW.trod enc P w base spare held fuel t cs = some x) :
    ∃ (A : Option Addr) (c : Nat) (xs : List Int), cs = [.slice A xs.length c] ∧ (A = none → xs.length = 0) ∧ xs.length ≤ maxLen ∧ RdI w A xs ∧ ∀ x ∈ xs, (Lit.int .i64 x).wf = true := by
  obtain ⟨A, c, rows, rfl, hA, hl, hr, hrow⟩ := open_rows ht (by omega) h
  obtain ⟨xs, rfl, hw⟩ := rows_of (fun x : Int => [Value.int .i64 x]) (fun x => (Lit.int .i64 x).wf = true) fun l hl => by
    obtain ⟨_, n, y, hy⟩ := hrow l hl
    obtain ⟨z, hz, _, hwz⟩ := DataW.trod_int he hy
    exact ⟨z, hz, hwz⟩
  refine ⟨A, c, xs, by simp, by simpa using hA, by simpa using hl, RdV.toI ?_, hw⟩
  rw [← flat_ints]
  exact hr
end

theorem list_3 {α : Type} {l : List α} (h : l.length = 3) : ∃ a b c, l = [a, b, c] := by
  match l, h with
  | [a, b, c], _ => exact ⟨a, b, c, rfl⟩
theorem list_9 {α : Type} {l : List α} (h : l.length = 9) : ∃ a0 a1 a2 a3 a4 a5 a6 a7 a8, l = [a0, a1, a2, a3, a4, a5, a6, a7, a8] := by
  match l, h with
  | [a0, a1, a2, a3, a4, a5, a6, a7, a8], _ => exact ⟨a0, a1, a2, a3, a4, a5, a6, a7, a8, rfl⟩

theorem stn_leaves : leavesB Tryd.prog 4 86 [3, 50, 3] = true := by kernel_rfl
theorem cfg_leaves : leavesB Tryd.prog 4 25 [3, 22, 22, 3, 22, 23, 3, 3, 3] = true := by kernel_rfl
theorem cfg_cells : Tryd.prog.cellsOf 25 = 9 := by kernel_rfl
theorem stn_cells : Tryd.prog.cellsOf 86 = 3 := by kernel_rfl
theorem int_cells : Tryd.prog.cellsOf 3 = 1 := by kernel_rfl

set_option maxRecDepth 100000 in
theorem open_cfg {H : Type} {enc : TypeId × Value → H} {W : World} {r : Reach} {base b : Nat} {sp : Nat → Bool} {held : Bool} {v : Value} {d : DataW H} {p : List MemPlace}
    (hv : Value.okWide Tryd.prog W r base 25 v) (h : DataW.Trod enc Tryd.prog W b sp held 25 v d p) :
    ∃ (n : Int) (A1 : Option Addr) (c1 : Nat) (ps : List Int) (A2 : Option Addr) (c2 : Nat) (ss : List Int) (long : Int) (A3 : Option Addr) (c3 : Nat) (bs : List Int) (A4 : Option Addr) (c4 : Nat) (st : List Stn) (miss good fresh : Int), v = (.agg #[.int .i64 n, .slice A1 ps.length c1, .slice A2 ss.length c2, .int .i64 long, .slice A3 bs.length c3, .slice A4 st.length c4, .int .i64 miss, .int .i64 good, .int .i64 fresh]) ∧ RdI W A1 ps ∧ RdI W A2 ss ∧ RdI W A3 bs ∧ RdV W A4 (stnCells st) ∧ (A1 = none → ps.length = 0) ∧ (A2 = none → ss.length = 0) ∧ (A3 = none → bs.length = 0) ∧ (A4 = none → st.length = 0) := by
  obtain ⟨l, fuel, rfl, hl, ht⟩ := open_struct Tryd.underlying25 hv h
  rw [cfg_cells] at hl
  obtain ⟨a0, a1, a2, a3, a4, a5, a6, a7, a8, rfl⟩ := list_9 hl
  obtain ⟨n, e0, _⟩ := leaf_int cfg_leaves ht (i := 0) rfl Tryd.underlying3
  obtain ⟨v1, m1, y1, e1, h1⟩ := leaf_any cfg_leaves ht (i := 1) rfl
  obtain ⟨v2, m2, y2, e2, h2⟩ := leaf_any cfg_leaves ht (i := 2) rfl
  obtain ⟨long, e3, _⟩ := leaf_int cfg_leaves ht (i := 3) rfl Tryd.underlying3
  obtain ⟨v4, m4, y4, e4, h4⟩ := leaf_any cfg_leaves ht (i := 4) rfl
  obtain ⟨v5, m5, y5, e5, h5⟩ := leaf_any cfg_leaves ht (i := 5) rfl
  obtain ⟨miss, e6, _⟩ := leaf_int cfg_leaves ht (i := 6) rfl Tryd.underlying3
  obtain ⟨good, e7, _⟩ := leaf_int cfg_leaves ht (i := 7) rfl Tryd.underlying3
  obtain ⟨fresh, e8, _⟩ := leaf_int cfg_leaves ht (i := 8) rfl Tryd.underlying3
  obtain ⟨A1, c1, ps, q1, n1, _, r1, _⟩ := open_rdI Tryd.underlying22 Tryd.underlying3 int_cells h1
  obtain ⟨A2, c2, ss, q2, n2, _, r2, _⟩ := open_rdI Tryd.underlying22 Tryd.underlying3 int_cells h2
  obtain ⟨A3, c3, bs, q3, n3, _, r3, _⟩ := open_rdI Tryd.underlying22 Tryd.underlying3 int_cells h4
  obtain ⟨A4, c4, rows, q4, n4, _, r4, hrow⟩ := open_rows Tryd.underlying23 (by rw [stn_cells]; omega) h5
  obtain ⟨st, rfl, _⟩ := rows_of Stn.cells (fun _ => True) fun l hl => by
    obtain ⟨hll, n, y, hy⟩ := hrow l hl
    rw [stn_cells] at hll
    obtain ⟨x0, x1, x2, rfl⟩ := list_3 hll
    obtain ⟨z0, k0, _⟩ := leaf_int stn_leaves hy (i := 0) rfl Tryd.underlying3
    obtain ⟨z1, k1, _⟩ := leaf_int stn_leaves hy (i := 1) rfl Tryd.underlying50
    obtain ⟨z2, k2, _⟩ := leaf_int stn_leaves hy (i := 2) rfl Tryd.underlying3
    simp at k0 k1 k2
    subst k0 k1 k2
    exact ⟨⟨z0, z1, z2⟩, rfl, trivial⟩
  simp at e0 e1 e2 e3 e4 e5 e6 e7 e8 q1 q2 q3 q4 n4
  subst e0 e1 e2 e3 e4 e5 e6 e7 e8 q1 q2 q3 q4
  exact ⟨n, A1, c1, ps, A2, c2, ss, long, A3, c3, bs, A4, c4, st, miss, good, fresh, rfl, r1, r2, r3, by simpa [stnCells, List.flatMap] using r4, n1, n2, n3, by simpa using n4⟩
end Go.Proofs.YtbmbaalidehoeaaDoor.K
