/- configs.single: is none of some numbers there twice? By slices.Sorted (Collect, Sort) and Compact. -/
import Derived.Test.YtbmbaalidehoeaaDoorIter
import Derived.Test.YtbmbaalidehoeaaDoorShelf
import Derived.Sort.OwnSortedInts
namespace Go.Proofs.YtbmbaalidehoeaaDoor.K
open Go.RowKit Go.Sort Go.Proofs

/-! ### the plain law -/
theorem compactUpTo_le (d : Array Int) (m : Nat) : (Lib.compactUpTo d m).length ≤ m := by
  unfold Lib.compactUpTo
  rw [List.length_map]
  exact Nat.le_trans (List.length_filter_le _ _) (by simp)

theorem compactUpTo_full {d : Array Int} {m : Nat} (h : (Lib.compactUpTo d m).length = m) : ∀ j, j < m → Lib.keeps d j = true := by
  induction m with
  | zero => intro j hj; omega
  | succ m ih =>
    rw [Lib.compactUpTo_succ, List.length_append] at h
    have hle := compactUpTo_le d m
    intro j hj
    by_cases hk : Lib.keeps d m = true
    · rw [if_pos hk] at h
      simp at h
      rcases Nat.lt_succ_iff_lt_or_eq.1 hj with hj' | rfl
      · exact ih (by omega) j hj'
      · exact hk
    · rw [if_neg hk] at h
      simp at h
      omega

/-- A rising list's compact is as long as it is just where none is there twice. -/
theorem compact_nodup (zs : List Int) (hs : zs.Pairwise (· ≤ ·)) : (Lib.compact zs).length = zs.length ↔ zs.Nodup := by
  constructor
  · intro h
    have hk := compactUpTo_full (d := zs.toArray) (m := zs.length) h
    have hlt : ∀ j, 0 < j → (hj : j < zs.length) → zs[j - 1] < zs[j] := by
      intro j h0 hj
      have h1 := hk j hj
      have h2 := List.pairwise_iff_getElem.1 hs (j - 1) j (by omega) hj (by omega)
      have h3 : zs[j] ≠ zs[j - 1] := by
        intro e
        have := Lib.keeps_neg (d := zs.toArray) (m := j) h0 (by simp [hj, show j - 1 < zs.length by omega, e])
        rw [this] at h1
        cases h1
      omega
    have hall : ∀ (i j : Nat) (hij : i < j) (hj : j < zs.length), zs[i]'(by omega) < zs[j] := by
      intro i j hij hj
      induction j with
      | zero => omega
      | succ j ih =>
        have h1 := hlt (j + 1) (by omega) hj
        simp only [Nat.add_sub_cancel] at h1
        rcases Nat.lt_succ_iff_lt_or_eq.1 hij with h | rfl
        · have := ih h (by omega)
          omega
        · exact h1
    exact List.pairwise_iff_getElem.2 fun i j hi hj hij => by have := hall i j hij hj; omega
  · intro h
    have : Lib.compact zs = zs := Lib.compact_all zs fun j hj => by
      rcases Nat.eq_zero_or_pos j with rfl | h0
      · exact Lib.keeps_lt_one _ 0 (by omega)
      · have hj' : j < zs.length := by simpa using hj
        refine Lib.keeps_pos ?_
        have := List.pairwise_iff_getElem.1 h (j - 1) j (by omega) hj' (by omega)
        simp [hj', show j - 1 < zs.length by omega]
        exact fun e => this e.symm
    rw [this]

def sortI (zs : List Int) : List Int := zs.mergeSort fun x y => decide (x ≤ y)
theorem sortI_length (zs : List Int) : (sortI zs).length = zs.length := by simp [sortI]
theorem sortI_rises (zs : List Int) : (sortI zs).Pairwise (· ≤ ·) := by
  have h := List.pairwise_mergeSort (le := fun x y : Int => decide (x ≤ y)) (fun a b c h1 h2 => by simp at *; omega) (fun a b => by simp; omega) zs
  exact h.imp fun h => by simpa using h
theorem single_iff (zs : List Int) : (Lib.compact (sortI zs)).length = zs.length ↔ zs.Nodup := by
  rw [← sortI_length zs, compact_nodup _ (sortI_rises zs)]
  exact (List.mergeSort_perm zs _).nodup_iff

/-! ### the walks -/
theorem appendSeq_any (Bs n₀ : Nat) (A : Option Addr) (cap : Nat) (zs : List Int) (hreach : zs.length ≤ 17592186044416) (w : World) (hBs : Bs < w.heap.size) (hn₀ : n₀ ≤ w.heap.size)
    (hc : w.cell? ⟨Bs, 0, none⟩ = some (.slice A zs.length cap)) (hI : RdI w A zs) (hb : ∀ b off, A = some ⟨b, off, none⟩ → zs ≠ [] → b < n₀) :
    Calls Tryd.prog 64 #[.slice none 0 0, .func (.func 85) #[] #[.pointer (some ⟨Bs, 0, none⟩)]] w fun e w' => ∃ v, e = .returned v ∧ w'.ownsRow w.heap.size 3 1 v zs.length (zs.map (Value.int .i64)) ∧ Below w.heap.size w w' :=
  callsIn_wide.1 (appendSeq_in Fence.wide 3 trivial rfl (by omega) 85 _ trivial (enters_of Tryd.func85 (by kernel_rfl) rfl) zs hreach n₀ w hn₀
    (values_stops Fence.wide 2 trivial rfl (by omega) Bs n₀ A cap zs hreach w hBs hc hI hb))

set_option maxHeartbeats 400000 in
theorem collect_any (Bs n₀ : Nat) (A : Option Addr) (cap : Nat) (zs : List Int) (hreach : zs.length ≤ 17592186044416) (w : World) (hBs : Bs < w.heap.size) (hn₀ : n₀ ≤ w.heap.size)
    (hc : w.cell? ⟨Bs, 0, none⟩ = some (.slice A zs.length cap)) (hI : RdI w A zs) (hb : ∀ b off, A = some ⟨b, off, none⟩ → zs ≠ [] → b < n₀) :
    Calls Tryd.prog 30 #[.func (.func 85) #[] #[.pointer (some ⟨Bs, 0, none⟩)]] w fun e w' => ∃ v, e = .returned v ∧ w'.ownsRow w.heap.size 3 1 v zs.length (zs.map (Value.int .i64)) ∧ Below w.heap.size w w' := by
  have H := Lib.hid (appendSeq_any Bs n₀ A cap zs hreach w hBs hn₀ hc hI hb)
  clear hc hI hb
  go_enter Tryd.func30, Tryd.ntmps30
  go_wp2_with (go_at_call 64; refine (H.out).mono ?_; rintro e w' ⟨v, rfl, hown, hbel⟩)
  go_ret
  exact ⟨v, rfl, hown, hbel⟩

set_option maxHeartbeats 1000000 in
theorem sorted_any (Bs n₀ : Nat) (A : Option Addr) (cap : Nat) (zs : List Int) (hne : zs ≠ []) (hreach : zs.length ≤ 17592186044416) (w : World) (hBs : Bs < w.heap.size) (hn₀ : n₀ ≤ w.heap.size)
    (hc : w.cell? ⟨Bs, 0, none⟩ = some (.slice A zs.length cap)) (hI : RdI w A zs) (hb : ∀ b off, A = some ⟨b, off, none⟩ → zs ≠ [] → b < n₀) :
    Calls Tryd.prog 71 #[.func (.func 85) #[] #[.pointer (some ⟨Bs, 0, none⟩)]] w fun e w' =>
      ∃ g c, e = .returned (.slice (some ⟨g, 0, none⟩) zs.length c) ∧ zs.length ≤ c ∧ w.heap.size ≤ g ∧ Holds (Value.int .i64) w' g 0 (sortI zs).toArray ∧ Below w.heap.size w w' := by
  have H := Lib.hid (collect_any Bs n₀ A cap zs hreach w hBs hn₀ hc hI hb)
  clear hc hI hb
  have HN := Lib.hid hne
  clear hne
  go_enter Tryd.func71, Tryd.ntmps71
  go_wp2_with (go_at_call 30; refine (H.out).mono ?_; rintro e w1 ⟨v, rfl, hown, hbel⟩)
  rcases hown.2 with ⟨_, h0⟩ | ⟨g, cap1, cur, rfl, hbase, hblk, h1, h2, h3, h4⟩
  · exact absurd (List.eq_nil_of_length_eq_zero h0) HN.out
  · have hH := holds_of_blockI (ss := zs) hblk (by simpa using h4)
    have hgl : g < w1.heap.size := (Array.getElem?_eq_some_iff.1 hblk).1
    have HS := Lib.hid (Tryd.slices_Sort_int g 0 cap1 zs w1 hH hgl (by omega))
    have HB := Lib.hid hbel
    have HO := Lib.hid hown
    have HK := Lib.hid hblk
    have H4 := Lib.hid h4
    have H3 := Lib.hid h3
    clear hH hbel hown hblk h4 h3
    go_wp2_with (go_at_call 84; refine (HS.out).mono ?_; rintro e w' ⟨rfl, nn, os, rfl⟩)
    go_ret
    refine ⟨g, cap1, rfl, h1, hbase, ?_, ?_⟩
    · have hh := heap_sortedI (n := nn) (os := os) (sortI zs).toArray HK.out
      refine holds_of_blockI (ss := sortI zs) hh ?_
      rw [take_putCellsI]
      rw [sortI_length]
      have := H3.out
      omega
    · exact HB.out.grown (grownBy_sortedI _) HB.out.size (fun j hj => by cases hj; exact hbase)

set_option maxHeartbeats 1000000 in
theorem single_any (A : Option Addr) (cap : Nat) (zs : List Int) (hne : zs ≠ []) (hreach : zs.length ≤ 17592186044416) (w : World) (hI : RdI w A zs) :
    Calls Tryd.prog 45 #[.slice A zs.length cap] w fun e w' => e = .returned (.bool (decide zs.Nodup)) ∧ Below w.heap.size w w' := by
  have hI' := hI.below ((Below.refl _ w).alloc (Nat.le_refl _) (.cells #[.slice A zs.length cap] 22))
  have H := Lib.hid (sorted_any w.heap.size w.heap.size A cap zs hne hreach (w.alloc (.cells #[.slice A zs.length cap] 22)) (by simp) (by simp) (by simp) hI' (fun b off e hz => by
    obtain ⟨b', off', e', hc⟩ := hI hz
    rw [e] at e'
    cases e'
    exact cell_lt (hc 0 (List.length_pos_iff.2 hz))))
  have HN := Lib.hid hne
  clear hne hI' hI
  go_enter Tryd.func45, Tryd.ntmps45
  go_wp2_with (first | (go_at_call 72; refine (values_any _ _ _ _).mono ?_; rintro e w' ⟨rfl, rfl⟩) | (go_at_call 71; refine (H.out).mono ?_; rintro e w1 ⟨g, c, rfl, hcap, hbase, hH, hbel⟩))
  have hlen := sortI_length zs
  have hgl : g < w1.heap.size := by
    have := (hH 0 (by simp; exact List.length_pos_iff.2 (by rw [← List.length_pos_iff, hlen]; exact List.length_pos_iff.2 HN.out))).1
    exact cell_lt this
  have hC := Tryd.slices_Compact_int g 0 c (sortI zs) w1 hH (by omega) (by omega)
  rw [hlen] at hC
  have HC := Lib.hid hC
  have HB := Lib.hid hbel
  have HH := Lib.hid hH
  have HL := Lib.hid hlen
  clear hC hbel hH hlen
  go_wp2_with (go_at_call 73; refine (HC.out).mono ?_; rintro e w' ⟨rfl, q, rfl⟩)
  go_ret
  refine ⟨ret_bool ?_, ?_⟩
  · have := single_iff zs
    rw [← HL.out] at this
    rw [Bool.eq_iff_iff]
    simp only [beq_iff_eq, decide_eq_true_eq, Int.ofNat_inj]
    simpa [HL.out] using this
  · refine (((Below.refl w.heap.size w).alloc (Nat.le_refl _) _).trans (HB.out.mono (by simp))).grown (row := some g) ?_ (by have := HB.out.size; simp at this; omega) (fun j hj => by cases hj; simp at hbase; omega)
    have := grownBy_sortedI (w := w1) (g := g) (n := q) (os := #[]) (Lib.compact (sortI zs) ++ List.replicate ((sortI zs).length - (Lib.compact (sortI zs)).length) 0).toArray
    simpa [HL.out] using this
end Go.Proofs.YtbmbaalidehoeaaDoor.K
