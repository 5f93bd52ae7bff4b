/- Contracts of the functions of package rings and of the small ones of configs (within, must, at), at the numbers that configs uses. -/
import Derived.Test.YtbmbaalidehoeaaDoorChecked
import Derived.Test.YtbmbaalidehoeaaDoorBase
import Derived.WalkKit
import Derived.WalkSpells
import Derived.WalkLawsBesides
import Derived.Deep.QuietTactic
import Derived.BigQuiet
namespace Go.Proofs.YtbmbaalidehoeaaDoor.K
open Go.RowKit



/-- What is wrong with a number. -/
def withinE (x least most : Int) : Int := if x > most then 3 else if x < least then 1 else 0

set_option maxHeartbeats 400000 in
theorem within_any (x a b : Int) (w : World) :
    Calls Tryd.prog 39 #[.int .i64 x, .int .i64 a, .int .i64 b] w fun e w' => e = .returned (.int .i64 (withinE x a b)) ∧ w = w' := by
  by_cases h1 : x > b
  · go_enter Tryd.func39, Tryd.ntmps39
    go_wp2
    go_ret
    exact ⟨ret_int (by simp only [withinE]; rw [if_pos (by omega)]), rfl⟩
  · by_cases h2 : x < a
    · go_enter Tryd.func39, Tryd.ntmps39
      go_wp2
      go_ret
      exact ⟨ret_int (by simp only [withinE]; rw [if_neg (by omega), if_pos (by omega)]), rfl⟩
    · go_enter Tryd.func39, Tryd.ntmps39
      go_wp2
      go_ret
      exact ⟨ret_int (by simp only [withinE]; rw [if_neg (by omega), if_neg (by omega)]), rfl⟩

/-- An argument that may not be, unless b. -/
def mustE (b : Bool) : Int := if b then 0 else 1

set_option maxHeartbeats 400000 in
theorem must_any (b : Bool) (w : World) :
    Calls Tryd.prog 42 #[.bool b] w fun e w' => e = .returned (.int .i64 (mustE b)) ∧ w = w' := by
  cases b
  · go_enter Tryd.func42, Tryd.ntmps42
    go_wp2
    go_ret
    exact ⟨rfl, rfl⟩
  · go_enter Tryd.func42, Tryd.ntmps42
    go_wp2
    go_ret
    exact ⟨rfl, rfl⟩

set_option maxHeartbeats 400000 in
theorem ring_ok (n : Int) (w : World) (h : 4 ≤ n) (h' : n ≤ 16) :
    Calls Tryd.prog 79 #[.int .i64 n, .int .u8 0] w fun e w' => e = .returned (.bool true) ∧ w = w' := by
  go_enter Tryd.func79, Tryd.ntmps79
  go_wp2
  go_ret
  exact ⟨rfl, rfl⟩

set_option maxHeartbeats 400000 in
theorem node_ok (n i : Int) (w : World) (h : 0 ≤ i) (h' : i < n) :
    Calls Tryd.prog 80 #[.int .i64 n, .int .i64 i] w fun e w' => e = .returned (.bool true) ∧ w = w' := by
  go_enter Tryd.func80, Tryd.ntmps80
  go_wp2
  go_ret
  exact ⟨rfl, rfl⟩

set_option maxHeartbeats 400000 in
theorem round_ok (n i : Int) (w : World) (hn : 4 ≤ n) (hn' : n ≤ 16) (h : 0 ≤ i) (h' : i ≤ 32) :
    Calls Tryd.prog 81 #[.int .i64 n, .int .i64 i] w fun e w' => e = .returned (.int .i64 (i % n)) ∧ w = w' := by
  have h1 : (n == 0) = false := by simp; omega
  have h2 := Int.emod_nonneg i (show n ≠ 0 by omega)
  have h3 := Int.emod_lt_of_pos i (show 0 < n by omega)
  go_enter Tryd.func81, Tryd.ntmps81
  go_wp2
  go_ret
  exact ⟨ret_int (by rw [Int.add_emod_right, Int.emod_emod]), rfl⟩

/-- 'the table of the directions' signs reads as it is laid.' -/
def Signs (w : World) : Prop := w.cell? ⟨0, 0, none⟩ = some (.int .i64 1) ∧ w.cell? ⟨0, 1, none⟩ = some (.int .i64 (-1))

theorem Signs.below {w w' : World} (h : Signs w) (hb : Below w.heap.size w w') : Signs w' := ⟨Below.keeps hb h.1, Below.keeps hb h.2⟩

set_option maxHeartbeats 1000000 in
/-- The node behind another one, clockwise. -/
theorem step_cw (n a : Int) (w : World) (hs : Signs w) (hn : 4 ≤ n) (hn' : n ≤ 16) (h : 0 ≤ a) (h' : a < n) :
    Calls Tryd.prog 61 #[.int .i64 n, .int .u8 0, .int .i64 a, .int .i64 1] w fun e w' => e = .returned (.int .i64 ((a + 1) % n)) ∧ ∃ q, w' = w.drewN q := by
  obtain ⟨hs1, _⟩ := hs
  have h1 : (n == 0) = false := by simp; omega
  have h5 : (1 : Int) % n = 1 := Int.emod_eq_of_lt (by omega) (by omega)
  go_enter Tryd.func61, Tryd.ntmps61
  go_wp2_with (first | (go_at_call 79; refine (ring_ok _ _ hn hn').mono ?_; rintro e w' ⟨rfl, rfl⟩) | (go_at_call 80; refine (node_ok _ _ _ h h').mono ?_; rintro e w' ⟨rfl, rfl⟩))
  go_quiet ((go_at_call 81; refine Calls.quiet_of_same ((round_ok n (a + 1) _ hn hn' (by omega) (by omega)).mono fun e w' h => ⟨h.1, h.2.symm⟩)))
  go_wp2
  go_ret
  exact ⟨rfl, _, rfl⟩
end Go.Proofs.YtbmbaalidehoeaaDoor.K
