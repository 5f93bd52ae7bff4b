/- slices.Repeat([]int{-1}, n) for n from 4 to 16: n times -1, in memory of the call's own. -/
import Derived.Test.YtbmbaalidehoeaaDoorBase
import Derived.Test.YtbmbaalidehoeaaDoorShelf
import Derived.Laws.CopyOwn
import Derived.Laws.MakeOwn
import Derived.Deep.RegionLaw
import Derived.Deep.RegionHeld3
namespace Go.Proofs.YtbmbaalidehoeaaDoor.K
open Go.RowKit

theorem run_make_rowN {P : Program} (t e : TypeId) (i : TypeInfo) (z : Value) (ht : P.underlying t = some (.slice e)) (hi : P.info? e = some i) (hz : i.zero = some z)
    (kl kc : IntKind) (n c : Nat) (hnc : n ≤ c) (hbytes : i.bytes * c ≤ 281474976710656) (h63 : c ≤ 9223372036854775807) (w : World) :
    (Instr.makeSlice t (.int kl (n : Int)) (.int kc (c : Int))).run P w = .ok (.slice (some ⟨w.heap.size, 0, none⟩) n c) (w.alloc (.cells (madeCells z.cells (c * i.size)) e)) := by
  have hb : (i.bytes : Int) * (c : Int) ≤ 281474976710656 := by
    have h : ((i.bytes * c : Nat) : Int) ≤ 281474976710656 := by omega
    rwa [Int.natCast_mul] at h
  have hr := run_make (P := P) w t e i z ht hi hz kl kc n c (by omega) (by omega) hb (by omega)
  simp only [Int.toNat_natCast] at hr
  exact hr
theorem madeCells_one (v : Value) (n : Nat) : madeCells #[v] n = (List.replicate n v).toArray := by
  apply Array.ext
  · simp [madeCells]
  · intro i h1 h2
    simp [madeCells, Nat.mod_one]

theorem infoR : (Tryd.prog.info? 3).map (fun i => (i.zero, i.size, i.bytes)) = some (some (.int .i64 0), 1, 8) := by kernel_rfl

/-- k times -1, then zeros. -/
def part (k n : Nat) : List Value := List.replicate k (.int .i64 (-1)) ++ List.replicate (n - k) (.int .i64 0)
theorem part_length {k n : Nat} (h : k ≤ n) : (part k n).length = n := by simp [part]; omega
theorem part_at {k n j : Nat} (h : j < k) : (part k n)[j]? = some (.int .i64 (-1)) := by
  rw [part, List.getElem?_append_left (by simpa using h)]
  simp [h]
theorem part_splice {k m n : Nat} (_h : k + m ≤ n) : splice (part k n) k (List.replicate m (.int .i64 (-1))) = part (k + m) n := by
  unfold splice part
  rw [List.take_append_of_le_length (by simp), List.take_of_length_le (by simp), List.length_replicate, List.drop_append, List.drop_replicate, List.length_replicate, List.drop_replicate]
  rw [show k - (k + m) = 0 by omega, show k + m - k = m by omega, show n - k - m = n - (k + m) by omega]
  rw [List.replicate_zero, List.nil_append, ← List.append_assoc, List.replicate_append_replicate]
theorem part_full (n : Nat) : part n n = List.replicate n (.int .i64 (-1)) := by simp [part]
theorem part_zero (n : Nat) : part 0 n = List.replicate n (.int .i64 0) := by simp [part]

theorem mul_one_n (N : Nat) (h : N ≤ 16) (w : World) : Calls Tryd.prog 60 #[.int .u64 1, .int .u64 N] w fun e w' => e = .returned (.tuple #[.int .u64 0, .int .u64 N]) ∧ w = w' := by
  refine (Tryd.bits_Mul 1 N (by omega) (by omega) w).mono ?_
  rintro e w' ⟨rfl, rfl⟩
  refine ⟨?_, rfl⟩
  rw [show 1 * N / 18446744073709551616 = 0 by omega, show 1 * N % 18446744073709551616 = N by omega]
  rfl

set_option maxRecDepth 100000 in
set_option maxHeartbeats 4000000 in
theorem repeat_any (N : Nat) (b c : Nat) (w : World) (h4 : 4 ≤ N) (h16 : N ≤ 16) (hc : w.cell? ⟨b, 0, none⟩ = some (.int .i64 (-1))) :
    Calls Tryd.prog 19 #[.slice (some ⟨b, 0, none⟩) 1 c, .int .i64 N] w fun e w' =>
      e = .returned (.slice (some ⟨w.heap.size, 0, none⟩) N N) ∧ Blk w' w.heap.size 3 (List.replicate N (.int .i64 (-1))).toArray ∧ Below w.heap.size w w' := by
  obtain ⟨i0, hi, hz0, hz1, hz2⟩ := info_parts infoR
  have hmk := fun W => run_make_rowN (P := Tryd.prog) 22 3 i0 _ Tryd.underlying22 hi hz0 .i64 .i64 N N (Nat.le_refl _) (by rw [hz2]; omega) (by omega) W
  rw [hz1, Nat.mul_one, show (Value.int IntKind.i64 0).cells = #[.int .i64 0] from rfl, madeCells_one, ← part_zero] at hmk
  have hsz : (Tryd.prog.info? 3).map (·.size) = some 1 := by rw [hi]; simp [hz1]
  have e1 : (N : Int) % 18446744073709551616 = N := Int.emod_eq_of_lt (by omega) (by omega)
  have HI := Lib.hid hi
  clear hi hz0 hz1 hz2
  have n0 : decide ((N : Int) < 0) = false := by simp
  have n1 : decide (9223372036854775807 < (N : Int)) = false := by simp; omega
  go_enter Tryd.func19, Tryd.ntmps19
  go_wp2_with (first | (go_at_call 60; refine (mul_one_n N h16 _).mono ?_; rintro e w' ⟨rfl, rfl⟩) | (with_reducible refine wpList_copy_splice rfl (.tmp 31) (.tmp 32) 22 22 rfl 3 Tryd.underlying22 hsz _ _ _ _ _ _ rfl rfl w.heap.size 0 (part 0 N) 3 ?hg [.int .i64 (-1)] ?hn ?hpos ?hfit ?h1 w.heap.size w ?hb (Nat.le_refl _) ?_))
  case hg => exact heap_alloc_new w _
  case hn => simp only [List.length_cons, List.length_nil, Nat.min_def]; split <;> omega
  case hpos =>
    intro j v hj
    match j, hj with
    | 0, hj =>
      simp at hj
      subst hj
      have := Below.keeps ((Below.refl _ w).alloc (Nat.le_refl _) (.cells (part 0 N).toArray 3)) hc
      simpa [Addr.add] using this
  case hfit => rw [part_length (by omega)]; simp; omega
  case h1 => intro v hv; simp at hv; subst hv; rfl
  case hb => exact (Below.refl _ _).alloc (Nat.le_refl _) _
  intro w1 hg1 hb1
  have HG1 : Hid (Blk w1 w.heap.size 3 (part 1 N).toArray) := by
    have := hg1.out
    rw [show [Value.int IntKind.i64 (-1)] = List.replicate 1 (.int .i64 (-1)) from rfl, part_splice (by omega)] at this
    exact this
  have HB1 := Lib.hid hb1
  clear hg1 hb1
  go_wp2
  go_loopw [8] (fun v wr => ∃ k : Nat, 1 ≤ k ∧ k ≤ N ∧ v = .int .i64 k ∧ Hid (Blk wr w.heap.size 3 (part k N).toArray) ∧ Below w.heap.size w wr) (fun v _ => N - (intOf v).toNat)
  case atStart => exact ⟨1, by omega, by omega, rfl, HG1, HB1.out⟩
  case round =>
    obtain ⟨k, hk1, hk, rfl, HG, hnx⟩ := hrel
    have HN := Lib.hid hnx
    clear hnx
    by_cases hlt : k < N
    · have e1 : (0 : Int) ≤ (k : Int) := by omega
      have e2 : (k : Int) ≤ (N : Int) := by omega
      have e3 : (k : Int) < (N : Int) := by omega
      go_wp2
      obtain ⟨m, hm⟩ : ∃ m, m = Nat.min k (N - k) := ⟨_, rfl⟩
      have hm1 : k + m ≤ N := by rw [hm]; simp only [Nat.min_def]; split <;> omega
      have hm2 : 0 < m := by rw [hm]; simp only [Nat.min_def]; split <;> omega
      have hmn : (List.replicate m (Value.int .i64 (-1))).length = Nat.min k (N - k) := by rw [List.length_replicate, hm]
      have hfit : k + (List.replicate m (Value.int .i64 (-1))).length ≤ (part k N).length := by rw [List.length_replicate, part_length hk]; exact hm1
      have h1c : ∀ v ∈ List.replicate m (Value.int .i64 (-1)), v.oneCell' = true := by intro v hv; rw [List.eq_of_mem_replicate hv]; rfl
      have hsrc : ∀ j v, (List.replicate m (Value.int .i64 (-1)))[j]? = some v → wr.drew.cell? ((⟨w.heap.size, 0, none⟩ : Addr).add j) = some v := by
        intro j v hj
        have hj' : j < m := by
          have := (List.getElem?_eq_some_iff.1 hj).1
          simpa using this
        have hv : v = .int .i64 (-1) := by
          rw [List.getElem?_replicate, if_pos hj'] at hj
          exact (Option.some.inj hj).symm
        subst hv
        have := (HG.out).cell j
        rw [List.getElem?_toArray, part_at (by rw [hm] at hj'; simp only [Nat.min_def] at hj'; split at hj' <;> omega)] at this
        show wr.cell? _ = _
        unfold Addr.add
        split
        · rename_i h0; subst h0; exact this
        · simpa using this
      have HNE := Lib.hid (show (if N = k then some (⟨w.heap.size, 0, none⟩ : Addr) else some ⟨w.heap.size, k, none⟩) = some ⟨w.heap.size, k, none⟩ from if_neg (by omega))
      have HM := Lib.hid hm
      have HMN := Lib.hid hmn
      have HFIT := Lib.hid hfit
      have H1C := Lib.hid h1c
      have HSRC := Lib.hid hsrc
      clear hm hmn hfit h1c hsrc
      go_region_held3 (fun _ => True) (trivial) ((refine step_copy_splice (by rfl) (.tmp 41) (.tmp 44) 22 22 (by rfl) 3 Tryd.underlying22 hsz _ _ _ _ _ _ (by rfl) (by rfl) w.heap.size k (part k N) 3 (by exact HG.out) (List.replicate m (.int .i64 (-1))) (by exact HMN.out) (fun _ => ⟨by exact HNE.out, _, by rfl, by exact HSRC.out⟩) (by exact HFIT.out) (by exact H1C.out) w.heap.size w (by exact HN.out.drew) (Nat.le_refl _) ?_; intro w4 hg4 hb4))
      have HG4 : Hid (Blk w4 w.heap.size 3 (part (k + m) N).toArray) := by
        have := hg4.out
        rw [part_splice hm1] at this
        exact this
      have HB4 := Lib.hid hb4
      clear hg4 hb4
      go_wp2
      have e9 : IntKind.i64.wrap ((k : Int) + (m : Int)) = (k : Int) + m := IntWalk.i64_in _ (by omega)
      go_roundw
      case rel => exact ⟨k + m, by omega, hm1, by rw [e9]; go_num, HG4, HB4.out⟩
      case measure => rw [e9]; simp [intOf]; omega
    · obtain rfl : k = N := by omega
      have HGG := HG
      go_wp2
      go_ret
      have := HGG.out
      rw [part_full] at this
      exact ⟨rfl, this, HN.out⟩
end Go.Proofs.YtbmbaalidehoeaaDoor.K
