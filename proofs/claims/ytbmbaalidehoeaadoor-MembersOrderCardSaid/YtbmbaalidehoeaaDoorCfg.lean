/- A config as the walks have it; configs.halves. -/
import Derived.Test.YtbmbaalidehoeaaDoorRings
import Derived.Test.YtbmbaalidehoeaaDoorSlices
import Derived.Test.YtbmbaalidehoeaaDoorClone
namespace Go.Proofs.YtbmbaalidehoeaaDoor.K
open Go.RowKit

structure Cfg where
  nodes : Int
  pairs : List Int
  slots : List Int
  long : Int
  boots : List Int
  stations : List Stn
  miss : Int
  good : Int
  fresh : Int

/-- The node behind another one, clockwise. -/
def nextN (n a : Int) : Int := (a + 1) % n
def halvesL (n : Int) (ps : List Int) : List Int := ps.flatMap fun a => [a, nextN n a]
theorem halvesL_length (n : Int) (ps : List Int) : (halvesL n ps).length = 2 * ps.length := by
  induction ps with
  | nil => rfl
  | cons a ps ih => simp only [halvesL, List.flatMap_cons, List.length_append, List.length_cons, List.length_nil] at *; omega
theorem halvesL_snoc (n : Int) (ps : List Int) (a : Int) : halvesL n (ps ++ [a]) = halvesL n ps ++ [a, nextN n a] := by simp [halvesL]
theorem take_snoc' (xs : List Int) (k : Nat) (h : k < xs.length) : xs.take (k + 1) = xs.take k ++ [xs[k]?.getD 0] := by
  rw [List.take_succ_eq_append_getElem h, List.getElem?_eq_getElem h]; rfl

theorem info_int' : (Tryd.prog.info? 3).map (fun i => (i.zero, i.size, i.bytes)) = some (some (.int .i64 0), 1, 8) := by kernel_rfl

set_option maxRecDepth 100000 in
set_option maxHeartbeats 2000000 in
theorem halves_any (n : Int) (A : Option Addr) (c : Nat) (ps : List Int) (S B St : Value) (long miss good fresh : Int) (w : World) (hs : Signs w) (hr : RdI w A ps) (hl : ps.length ≤ 8)
    (hn : 4 ≤ n) (hn' : n ≤ 16) (hin : ∀ a ∈ ps, 0 ≤ a ∧ a < n) :
    Calls Tryd.prog 20 #[.agg #[.int .i64 n, .slice A ps.length c, S, .int .i64 long, B, St, .int .i64 miss, .int .i64 good, .int .i64 fresh]] w fun e w' =>
      ∃ v, e = .returned v ∧ w'.ownsRow w.heap.size 3 1 v (2 * ps.length) ((halvesL n ps).map (Value.int .i64)) ∧ Below w.heap.size w w' := by
  obtain ⟨i0, hi, hz0, hz1, hz2⟩ := info_parts info_int'
  go_enter Tryd.func20, Tryd.ntmps20
  go_wp2
  obtain ⟨W0, hW0⟩ : ∃ W0, w.alloc (.cells #[.int .i64 n, .slice A ps.length c, S, .int .i64 long, B, St, .int .i64 miss, .int .i64 good, .int .i64 fresh] 25) = W0 := ⟨_, rfl⟩
  have hb0 : Below w.heap.size w W0 := by rw [← hW0]; exact (Below.refl _ _).alloc (Nat.le_refl _) _
  have hc0 : W0.cell? ⟨w.heap.size, 0, none⟩ = some (.int .i64 n) := by rw [← hW0]; simp
  have hr0 : RdI W0 A ps := hr.below hb0
  have hs0 : Signs W0 := hs.below hb0
  rw [hW0]
  clear hW0 hs hr
  go_loopw [2, 4, 8] (fun v _ i wr => ∃ k : Nat, k ≤ ps.length ∧ i = .int .i64 k ∧ wr.ownsRow W0.heap.size 3 1 v (2 * k) ((halvesL n (ps.take k)).map (Value.int .i64)) ∧ Below W0.heap.size W0 wr)
    (fun _ _ i _ => ps.length - (intOf i).toNat)
  case atStart => exact ⟨0, Nat.zero_le _, rfl, World.ownsRow_nil _ _ _ _, Below.refl _ _⟩
  case round =>
    obtain ⟨k, hk, rfl, hown, hnx⟩ := hrel
    have hzr : W0.heap.size ≤ wr.heap.size := hnx.size
    by_cases hlt : k < ps.length
    · obtain ⟨b, off, rfl, hcs⟩ := hr0.at_ hlt
      have hcx := Below.keeps hnx (hcs k hlt)
      obtain ⟨x, hx⟩ : ∃ x, ps[k]?.getD 0 = x := ⟨_, rfl⟩
      have hxin : 0 ≤ x ∧ x < n := by
        rw [← hx, List.getElem?_eq_getElem hlt]
        exact hin _ (List.getElem_mem hlt)
      rw [hx] at hcx
      have hcn := Below.keeps hnx hc0
      have HX := Lib.hid hx
      have HC := Lib.hid hcs
      have HR := Lib.hid hr0
      have HST := Lib.hid (step_cw n x wr (hs0.below hnx) hn hn' hxin.1 hxin.2)
      have HS := Lib.hid hs0
      have HN := Lib.hid hnx
      have HI := Lib.hid hin
      clear hcs hr0 hx hs0 hnx hin hc0
      go_wp2_with (first | (go_at_call 61; refine (HST.out).mono ?_; rintro e w' ⟨rfl, q, rfl⟩) | (at_builtin; refine wpList_append_own _ rfl _ _ 22 rfl W0.heap.size 3 i0 (.int .i64 0) 1 8 Tryd.underlying22 hi hz0 hz1 hz2 rfl (by decide) _ _ _ rfl (by exact hown.alloc _) ⟨wr.heap.size, 0, none⟩ 2 2 [.int .i64 x, .int .i64 ((x + 1) % n)] rfl rfl ?c1 ?c2 ?c3 ?c4 ?c5 ?_))
      case c1 => exact cell_two_new (wr.drewN q) _ _ _
      case c2 => intro u hu; simp at hu; rcases hu with rfl | rfl <;> rfl
      case c3 => unfold maxLen; omega
      case c4 => omega
      case c5 => simp; omega
      · intro v' w1 hown' hgrow _
        go_wp2
        go_roundw
        case rel =>
          refine ⟨k + 1, by omega, by go_num, ?_, ?_⟩
          · rw [take_snoc' ps k hlt, HX.out, halvesL_snoc, List.map_append]
            exact hown'
          · refine ((below_drewN (HN.out.alloc hzr _) q).grown hgrow (by simp; omega) fun j hj => (hown.lt j hj).1)
        case measure => simp [intOf]; omega
    · obtain rfl : k = ps.length := by omega
      have HN := Lib.hid hnx
      have HO := Lib.hid hown
      clear hnx hown
      go_wp2
      go_ret
      refine ⟨_, rfl, ?_, Below.then_ hb0 HN.out⟩
      have := HO.out
      rw [List.take_length] at this
      exact ownsRow_mono this hb0.size
end Go.Proofs.YtbmbaalidehoeaaDoor.K
