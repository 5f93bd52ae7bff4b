/- The ten rules that a config must keep to: what each closure of configs.rules answers. -/
import Derived.Test.YtbmbaalidehoeaaDoorChecks
import Derived.Test.YtbmbaalidehoeaaDoorCfg
import Derived.Test.YtbmbaalidehoeaaDoorSingle
import Derived.Deep.RegionWith
namespace Go.Proofs.YtbmbaalidehoeaaDoor.K
open Go.RowKit

def rule1 (n : Int) : Int := withinE n 4 16
def rule2 (ps : List Int) : Int := withinE ps.length 2 8
def rule3 (n : Int) (ps : List Int) : Int := mustE (!ps.any (notIn n) && sortedB ps && decide (halvesL n ps).Nodup)
def rule4 (ss : List Int) : Int := withinE ss.length 1 16
def rule5 (ps ss : List Int) : Int := mustE (!ss.any (notIn ps.length) && (List.range ps.length).all fun p => ss.any fun x => (p : Int) == x)
def rule6 (n long : Int) : Int := withinE long (max (3 * n + 1) (n + 116)) 4096
def rule7 (n : Int) (bs : List Int) : Int := first2 (mustE ((bs.length : Int) == n)) (eachE bs 0 4096)
def rule8 (st : List Stn) : Int := withinE st.length 0 8
def stnE (n : Int) (s : Stn) : Int := first2 (mustE (decide (0 ≤ s.node) && decide (s.node < n))) (withinE s.hold 1 100)
def rule9 (n : Int) : List Stn → Int
  | [] => 0
  | s :: st => if stnE n s = 0 then rule9 n st else stnE n s
def rule10 (miss good fresh : Int) : Int := eachE [miss, good, fresh] 1 100

set_option maxHeartbeats 1000000 in
theorem r1_any (n : Int) (A1 : Option Addr) (c1 : Nat) (ps : List Int) (A2 : Option Addr) (c2 : Nat) (ss : List Int) (long : Int) (A3 : Option Addr) (c3 : Nat) (bs : List Int) (A4 : Option Addr) (c4 : Nat) (st : List Stn) (miss good fresh : Int) (w : World) :
    Calls Tryd.prog 38 #[(.agg #[.int .i64 n, .slice A1 ps.length c1, .slice A2 ss.length c2, .int .i64 long, .slice A3 bs.length c3, .slice A4 st.length c4, .int .i64 miss, .int .i64 good, .int .i64 fresh])] w fun e w' => e = .returned (.int .i64 (rule1 n)) ∧ Below w.heap.size w w' := by
  go_enter Tryd.func38, Tryd.ntmps38
  go_wp2_with (go_at_call 39; refine (within_any _ _ _ _).mono ?_; rintro e w' ⟨rfl, rfl⟩)
  go_ret
  exact ⟨rfl, (Below.refl _ _).alloc (Nat.le_refl _) _⟩

set_option maxHeartbeats 1000000 in
theorem r2_any (n : Int) (A1 : Option Addr) (c1 : Nat) (ps : List Int) (A2 : Option Addr) (c2 : Nat) (ss : List Int) (long : Int) (A3 : Option Addr) (c3 : Nat) (bs : List Int) (A4 : Option Addr) (c4 : Nat) (st : List Stn) (miss good fresh : Int) (w : World) :
    Calls Tryd.prog 40 #[(.agg #[.int .i64 n, .slice A1 ps.length c1, .slice A2 ss.length c2, .int .i64 long, .slice A3 bs.length c3, .slice A4 st.length c4, .int .i64 miss, .int .i64 good, .int .i64 fresh])] w fun e w' => e = .returned (.int .i64 (rule2 ps)) ∧ Below w.heap.size w w' := by
  go_enter Tryd.func40, Tryd.ntmps40
  go_wp2_with (go_at_call 39; refine (within_any _ _ _ _).mono ?_; rintro e w' ⟨rfl, rfl⟩)
  go_ret
  exact ⟨rfl, (Below.refl _ _).alloc (Nat.le_refl _) _⟩

set_option maxHeartbeats 1000000 in
theorem r4_any (n : Int) (A1 : Option Addr) (c1 : Nat) (ps : List Int) (A2 : Option Addr) (c2 : Nat) (ss : List Int) (long : Int) (A3 : Option Addr) (c3 : Nat) (bs : List Int) (A4 : Option Addr) (c4 : Nat) (st : List Stn) (miss good fresh : Int) (w : World) :
    Calls Tryd.prog 46 #[(.agg #[.int .i64 n, .slice A1 ps.length c1, .slice A2 ss.length c2, .int .i64 long, .slice A3 bs.length c3, .slice A4 st.length c4, .int .i64 miss, .int .i64 good, .int .i64 fresh])] w fun e w' => e = .returned (.int .i64 (rule4 ss)) ∧ Below w.heap.size w w' := by
  go_enter Tryd.func46, Tryd.ntmps46
  go_wp2_with (go_at_call 39; refine (within_any _ _ _ _).mono ?_; rintro e w' ⟨rfl, rfl⟩)
  go_ret
  exact ⟨rfl, (Below.refl _ _).alloc (Nat.le_refl _) _⟩

set_option maxHeartbeats 1000000 in
theorem r8_any (n : Int) (A1 : Option Addr) (c1 : Nat) (ps : List Int) (A2 : Option Addr) (c2 : Nat) (ss : List Int) (long : Int) (A3 : Option Addr) (c3 : Nat) (bs : List Int) (A4 : Option Addr) (c4 : Nat) (st : List Stn) (miss good fresh : Int) (w : World) :
    Calls Tryd.prog 53 #[(.agg #[.int .i64 n, .slice A1 ps.length c1, .slice A2 ss.length c2, .int .i64 long, .slice A3 bs.length c3, .slice A4 st.length c4, .int .i64 miss, .int .i64 good, .int .i64 fresh])] w fun e w' => e = .returned (.int .i64 (rule8 st)) ∧ Below w.heap.size w w' := by
  go_enter Tryd.func53, Tryd.ntmps53
  go_wp2_with (go_at_call 39; refine (within_any _ _ _ _).mono ?_; rintro e w' ⟨rfl, rfl⟩)
  go_ret
  exact ⟨rfl, (Below.refl _ _).alloc (Nat.le_refl _) _⟩

set_option maxHeartbeats 1000000 in
theorem r6_any (n : Int) (A1 : Option Addr) (c1 : Nat) (ps : List Int) (A2 : Option Addr) (c2 : Nat) (ss : List Int) (long : Int) (A3 : Option Addr) (c3 : Nat) (bs : List Int) (A4 : Option Addr) (c4 : Nat) (st : List Stn) (miss good fresh : Int) (w : World) (hn : 4 ≤ n) (hn' : n ≤ 16) :
    Calls Tryd.prog 49 #[(.agg #[.int .i64 n, .slice A1 ps.length c1, .slice A2 ss.length c2, .int .i64 long, .slice A3 bs.length c3, .slice A4 st.length c4, .int .i64 miss, .int .i64 good, .int .i64 fresh])] w fun e w' => e = .returned (.int .i64 (rule6 n long)) ∧ Below w.heap.size w w' := by
  go_enter Tryd.func49, Tryd.ntmps49
  go_wp2_with (go_at_call 39; refine (within_any _ _ _ _).mono ?_; rintro e w' ⟨rfl, rfl⟩)
  go_ret
  exact ⟨ret_int (by unfold rule6; rw [show n + 114 + 2 = n + 116 by omega]), (Below.refl _ _).alloc (Nat.le_refl _) _⟩

set_option maxHeartbeats 1000000 in
theorem r10_any (n : Int) (A1 : Option Addr) (c1 : Nat) (ps : List Int) (A2 : Option Addr) (c2 : Nat) (ss : List Int) (long : Int) (A3 : Option Addr) (c3 : Nat) (bs : List Int) (A4 : Option Addr) (c4 : Nat) (st : List Stn) (miss good fresh : Int) (w : World) :
    Calls Tryd.prog 55 #[(.agg #[.int .i64 n, .slice A1 ps.length c1, .slice A2 ss.length c2, .int .i64 long, .slice A3 bs.length c3, .slice A4 st.length c4, .int .i64 miss, .int .i64 good, .int .i64 fresh])] w fun e w' => e = .returned (.int .i64 (rule10 miss good fresh)) ∧ Below w.heap.size w w' := by
  have hr : RdI ((w.alloc (.cells #[.int .i64 n, .slice A1 ps.length c1, .slice A2 ss.length c2, .int .i64 long, .slice A3 bs.length c3, .slice A4 st.length c4, .int .i64 miss, .int .i64 good, .int .i64 fresh] 25)).alloc (.cells #[.int .i64 miss, .int .i64 good, .int .i64 fresh] 3)) (some ⟨w.heap.size + 1, 0, none⟩) [miss, good, fresh] := fun _ => ⟨_, _, rfl, fun j hj => by
    match j, hj with
    | 0, _ => simp
    | 1, _ => simp
    | 2, _ => simp⟩
  have HR := Lib.hid hr
  clear hr
  go_enter Tryd.func55, Tryd.ntmps55
  go_wp2_with (go_at_call 52; refine (each_any _ 3 [miss, good, fresh] _ _ _ HR.out (by simp)).mono ?_; rintro e w' ⟨rfl, rfl⟩)
  go_ret
  exact ⟨rfl, ((Below.refl _ _).alloc (Nat.le_refl _) _).alloc (by simp) _⟩

/-! ### rule 3: the pairs -/
set_option maxRecDepth 100000 in
set_option maxHeartbeats 1000000 in
theorem r3_any (n : Int) (A1 : Option Addr) (c1 : Nat) (ps : List Int) (A2 : Option Addr) (c2 : Nat) (ss : List Int) (long : Int) (A3 : Option Addr) (c3 : Nat) (bs : List Int) (A4 : Option Addr) (c4 : Nat) (st : List Stn) (miss good fresh : Int) (w : World) (hs : Signs w) (hr : RdI w A1 ps) (hn : 4 ≤ n) (hn' : n ≤ 16) (hl : 2 ≤ ps.length) (hl' : ps.length ≤ 8) :
    Calls Tryd.prog 41 #[(.agg #[.int .i64 n, .slice A1 ps.length c1, .slice A2 ss.length c2, .int .i64 long, .slice A3 bs.length c3, .slice A4 st.length c4, .int .i64 miss, .int .i64 good, .int .i64 fresh])] w fun e w' => e = .returned (.int .i64 (rule3 n ps)) ∧ Below w.heap.size w w' := by
  have hb0 : Below w.heap.size w (w.alloc (.cells #[.int .i64 n, .slice A1 ps.length c1, .slice A2 ss.length c2, .int .i64 long, .slice A3 bs.length c3, .slice A4 st.length c4, .int .i64 miss, .int .i64 good, .int .i64 fresh] 25)) := (Below.refl _ _).alloc (Nat.le_refl _) _
  have H1 := Lib.hid (inside_any A1 c1 ps n _ (hr.below hb0) (by omega))
  cases hin : !ps.any (notIn n)
  · rw [hin] at H1
    have HI := Lib.hid hin
    clear hin hr hs
    go_enter Tryd.func41, Tryd.ntmps41
    go_wp2_with (first | (go_at_call 43; refine (H1.out).mono ?_; rintro e w1 ⟨rfl, hb1⟩) | (go_at_call 42; refine (must_any _ _).mono ?_; rintro e w' ⟨rfl, rfl⟩))
    go_ret
    exact ⟨ret_int (by unfold rule3; rw [HI.out]; rfl), Below.then_ hb0 hb1⟩
  · rw [hin] at H1
    have HI := Lib.hid hin
    have hall : ∀ a ∈ ps, 0 ≤ a ∧ a < n := by
      intro a ha
      have h1 : notIn n a = false := by
        have h2 : ps.any (notIn n) = false := by simpa using hin
        rw [List.any_eq_false] at h2
        simpa using h2 a ha
      simp [notIn] at h1
      omega
    have HA := Lib.hid hall
    clear hin hall
    have HR := Lib.hid hr
    have HS := Lib.hid hs
    clear hr hs
    cases hso : sortedB ps
    · have HO := Lib.hid hso
      clear hso
      go_enter Tryd.func41, Tryd.ntmps41
      go_wp2_with (first | (go_at_call 43; refine (H1.out).mono ?_; rintro e w1 ⟨rfl, hb1⟩; obtain ⟨hc1, hf1⟩ := bcell hb1) | (go_at_call 44; refine (isSorted_any A1 c1 ps _ (by exact (HR.out.below hb0).below hb1) (by omega)).mono ?_; rw [HO.out]; rintro e w2 ⟨rfl, q, rfl⟩) | (go_at_call 42; refine (must_any _ _).mono ?_; rintro e w' ⟨rfl, rfl⟩))
      go_ret
      exact ⟨ret_int (by unfold rule3; rw [HI.out, HO.out]; rfl), below_drewN (Below.then_ hb0 hb1) q⟩
    · have HO := Lib.hid hso
      clear hso
      go_enter Tryd.func41, Tryd.ntmps41
      go_wp2_with (first | (go_at_call 43; refine (H1.out).mono ?_; rintro e w1 ⟨rfl, hb1⟩; obtain ⟨hc1, hf1⟩ := bcell hb1) | (go_at_call 44; refine (isSorted_any A1 c1 ps _ (by exact (HR.out.below hb0).below hb1) (by omega)).mono ?_; rw [HO.out]; rintro e w2 ⟨rfl, q, rfl⟩) | (go_at_call 20; refine (halves_any n A1 c1 ps _ _ _ _ _ _ _ _ (by exact (HS.out.below hb0).below (below_drewN hb1 q)) (by exact (HR.out.below hb0).below (below_drewN hb1 q)) hl' hn hn' HA.out).mono ?_; rintro e w3 ⟨v, rfl, hown, hb3⟩; obtain ⟨A', c', rfl, hcc, hcm⟩ := own_form hown))
      have hS := single_any A' c' (halvesL n ps) (by intro e; have := halvesL_length n ps; rw [e] at this; simp at this; omega) (by rw [halvesL_length]; omega) w3 (RdI.of_own hown)
      rw [halvesL_length] at hS
      have HSi := Lib.hid hS
      have HB3 := Lib.hid hb3
      have HB1 := Lib.hid hb1
      clear hS hown hb3 hb1 hc1 hf1
      go_wp2_with (first | (go_at_call 45; refine (HSi.out).mono ?_; rintro e w4 ⟨rfl, hb4⟩) | (go_at_call 42; refine (must_any _ _).mono ?_; rintro e w' ⟨rfl, rfl⟩))
      go_ret
      exact ⟨ret_int (by unfold rule3; rw [HI.out, HO.out]; rfl), Below.then_ (Below.then_ (below_drewN (Below.then_ hb0 HB1.out) q) HB3.out) hb4⟩

/-! ### rule 5: the slots -/
def slotsB (b0 : Bool) (ss : List Int) (k : Nat) : Bool := b0 && (List.range k).all fun p => ss.any fun x => (p : Int) == x
theorem slotsB_succ (b0 : Bool) (ss : List Int) (k : Nat) : slotsB b0 ss (k + 1) = (slotsB b0 ss k && ss.any fun x => (k : Int) == x) := by
  simp [slotsB, List.range_succ, Bool.and_assoc]

set_option maxRecDepth 100000 in
set_option maxHeartbeats 2000000 in
theorem r5_any (n : Int) (A1 : Option Addr) (c1 : Nat) (ps : List Int) (A2 : Option Addr) (c2 : Nat) (ss : List Int) (long : Int) (A3 : Option Addr) (c3 : Nat) (bs : List Int) (A4 : Option Addr) (c4 : Nat) (st : List Stn) (miss good fresh : Int) (w : World) (hr : RdI w A2 ss) (hl' : ps.length ≤ 8) (hs' : ss.length ≤ 16) :
    Calls Tryd.prog 47 #[(.agg #[.int .i64 n, .slice A1 ps.length c1, .slice A2 ss.length c2, .int .i64 long, .slice A3 bs.length c3, .slice A4 st.length c4, .int .i64 miss, .int .i64 good, .int .i64 fresh])] w fun e w' => e = .returned (.int .i64 (rule5 ps ss)) ∧ Below w.heap.size w w' := by
  have hb0 : Below w.heap.size w (w.alloc (.cells #[.int .i64 n, .slice A1 ps.length c1, .slice A2 ss.length c2, .int .i64 long, .slice A3 bs.length c3, .slice A4 st.length c4, .int .i64 miss, .int .i64 good, .int .i64 fresh] 25)) := (Below.refl _ _).alloc (Nat.le_refl _) _
  have H1 := inside_any A2 c2 ss ps.length _ (hr.below hb0) (by omega)
  obtain ⟨b0, hb0e⟩ : ∃ b0, (!ss.any (notIn ps.length)) = b0 := ⟨_, rfl⟩
  rw [hb0e] at H1
  replace H1 := Lib.hid H1
  have HE := Lib.hid hb0e
  have HR := Lib.hid hr
  clear hr hb0e
  go_enter Tryd.func47, Tryd.ntmps47
  go_wp2_with (first | (go_at_call 43; refine (H1.out).mono ?_; rintro e w1 ⟨rfl, hb1⟩; obtain ⟨hc1, hf1⟩ := bcell hb1))
  have hc2 : w1.cell? ⟨w.heap.size, 2, none⟩ = some (.slice A2 ss.length c2) := by rw [hc1 _ _ (by simp)]; simp
  have HR1 := Lib.hid ((HR.out.below hb0).below hb1)
  have HB1 := Lib.hid hb1
  clear hc1 hf1 hb1
  go_loop [3, 4, 14] (fun v _ i => ∃ k : Nat, k ≤ ps.length ∧ i = .int .i64 k ∧ v = .bool (slotsB b0 ss k)) (fun _ _ i => ps.length - (intOf i).toNat)
  case atStart => exact ⟨0, Nat.zero_le _, rfl, by simp [slotsB]⟩
  case round =>
    obtain ⟨k, hk, rfl, rfl⟩ := hrel
    by_cases hlt : k < ps.length
    · cases hB : slotsB b0 ss k
      · have HBB := Lib.hid hB
        clear hB
        go_wp2
        go_round
        case rel => exact ⟨k + 1, by omega, by go_num, by rw [slotsB_succ, HBB.out]; rfl⟩
        case measure => simp [intOf]; omega
      · have HBB := Lib.hid hB
        clear hB
        go_wp2_with (go_at_call 48; refine (contains_any A2 c2 ss k _ HR1.out (by omega)).mono ?_; rintro e w2 ⟨rfl, rfl⟩)
        go_round
        case rel => exact ⟨k + 1, by omega, by go_num, by rw [slotsB_succ, HBB.out]; rfl⟩
        case measure => simp [intOf]; omega
    · obtain rfl : k = ps.length := by omega
      go_wp2_with (go_at_call 42; refine (must_any _ _).mono ?_; rintro e w' ⟨rfl, rfl⟩)
      go_ret
      exact ⟨ret_int (by unfold rule5; rw [HE.out]; rfl), Below.then_ hb0 HB1.out⟩

/-! ### rule 7: the boots -/
set_option maxRecDepth 100000 in
set_option maxHeartbeats 2000000 in
theorem r7_any (n : Int) (A1 : Option Addr) (c1 : Nat) (ps : List Int) (A2 : Option Addr) (c2 : Nat) (ss : List Int) (long : Int) (A3 : Option Addr) (c3 : Nat) (bs : List Int) (A4 : Option Addr) (c4 : Nat) (st : List Stn) (miss good fresh : Int) (w : World) (hr : RdI w A3 bs) (hs' : bs.length ≤ 17592186044416) :
    Calls Tryd.prog 50 #[(.agg #[.int .i64 n, .slice A1 ps.length c1, .slice A2 ss.length c2, .int .i64 long, .slice A3 bs.length c3, .slice A4 st.length c4, .int .i64 miss, .int .i64 good, .int .i64 fresh])] w fun e w' => e = .returned (.int .i64 (rule7 n bs)) ∧ Below w.heap.size w w' := by
  have hb0 : Below w.heap.size w (w.alloc (.cells #[.int .i64 n, .slice A1 ps.length c1, .slice A2 ss.length c2, .int .i64 long, .slice A3 bs.length c3, .slice A4 st.length c4, .int .i64 miss, .int .i64 good, .int .i64 fresh] 25)) := (Below.refl _ _).alloc (Nat.le_refl _) _
  have hr1 := hr.below hb0
  go_enter Tryd.func50, Tryd.ntmps50
  go_wp2
  refine gen_wp (fun W => Blk W w.heap.size 25 #[.int .i64 n, .slice A1 ps.length c1, .slice A2 ss.length c2, .int .i64 long, .slice A3 bs.length c3, .slice A4 st.length c4, .int .i64 miss, .int .i64 good, .int .i64 fresh] ∧ Below w.heap.size w W ∧ RdI W A3 bs) ⟨Blk.new_ w _ _ rfl, hb0, hr1⟩ ?_
  rintro W ⟨k0, hb, hr2⟩
  have g0 := k0.cell 0
  have g4 := k0.cell 4
  simp at g0 g4
  have HR := Lib.hid hr2
  have HB := Lib.hid hb
  clear hr hr1 hr2 hb0 hb k0
  refine wp_tail 10 (by kernel_rfl) (by kernel_rfl) ?_
  simp only [List.take_succ_cons, List.take_zero, List.drop_succ_cons, List.drop_zero]
  repeat still_step
  still_call (still_of (must_any _ _))
  repeat still_step
  still_call (still_of (each_any A3 c3 bs _ _ _ (by exact HR.out) hs'))
  refine wpStill_nil ?_
  go_wp2_with (go_at_call 51; refine (first_any (mustE ((bs.length : Int) == n)) (eachE bs 0 4096) W.heap.size 2 _ ?_ ?_).mono ?_; (simp); (simp); rintro e w' ⟨rfl, rfl⟩)
  go_ret
  exact ⟨rfl, (HB.out.alloc HB.out.size _).drew⟩

/-! ### rule 9: the stations -/
theorem rule9_all {n : Int} {st : List Stn} (h : ∀ (j : Nat) (s : Stn), st[j]? = some s → stnE n s = 0) : rule9 n st = 0 := by
  induction st with
  | nil => rfl
  | cons s st ih =>
    rw [rule9, if_pos (h 0 s rfl)]
    exact ih fun j s' hj => h (j + 1) s' (by simpa using hj)
theorem rule9_at {n : Int} {st : List Stn} {k : Nat} {s : Stn} (hk : st[k]? = some s) (h : ∀ (j : Nat) (s : Stn), j < k → st[j]? = some s → stnE n s = 0) (hn : stnE n s ≠ 0) : rule9 n st = stnE n s := by
  induction st generalizing k with
  | nil => simp at hk
  | cons a st ih =>
    cases k with
    | zero =>
      simp at hk
      subst hk
      rw [rule9, if_neg hn]
    | succ k =>
      rw [rule9, if_pos (h 0 a (by omega) rfl)]
      exact ih (by simpa using hk) (fun j s' hj hs => h (j + 1) s' (by omega) (by simpa using hs))

set_option maxRecDepth 100000 in
set_option maxHeartbeats 4000000 in
theorem r9_any (n : Int) (A1 : Option Addr) (c1 : Nat) (ps : List Int) (A2 : Option Addr) (c2 : Nat) (ss : List Int) (long : Int) (A3 : Option Addr) (c3 : Nat) (bs : List Int) (A4 : Option Addr) (c4 : Nat) (st : List Stn) (miss good fresh : Int) (w : World) (hr : RdV w A4 (stnCells st)) (hs' : st.length ≤ 8) :
    Calls Tryd.prog 54 #[(.agg #[.int .i64 n, .slice A1 ps.length c1, .slice A2 ss.length c2, .int .i64 long, .slice A3 bs.length c3, .slice A4 st.length c4, .int .i64 miss, .int .i64 good, .int .i64 fresh])] w fun e w' => e = .returned (.int .i64 (rule9 n st)) ∧ Below w.heap.size w w' := by
  have hb0 : Below w.heap.size w (w.alloc (.cells #[.int .i64 n, .slice A1 ps.length c1, .slice A2 ss.length c2, .int .i64 long, .slice A3 bs.length c3, .slice A4 st.length c4, .int .i64 miss, .int .i64 good, .int .i64 fresh] 25)) := (Below.refl _ _).alloc (Nat.le_refl _) _
  have hr1 := hr.below hb0
  go_enter Tryd.func54, Tryd.ntmps54
  go_wp2
  refine gen_wp (fun W => Blk W w.heap.size 25 #[.int .i64 n, .slice A1 ps.length c1, .slice A2 ss.length c2, .int .i64 long, .slice A3 bs.length c3, .slice A4 st.length c4, .int .i64 miss, .int .i64 good, .int .i64 fresh] ∧ Below w.heap.size w W ∧ RdV W A4 (stnCells st)) ⟨Blk.new_ w _ _ rfl, hb0, hr1⟩ ?_
  rintro W ⟨k0, hb, hr2⟩
  have HR := Lib.hid hr2
  have HB := Lib.hid hb
  have K0 := Lib.hid k0
  clear hr hr1 hr2 hb0 hb k0
  go_loopw [4, 5, 9] (fun _ _ i wr => ∃ k : Nat, k ≤ st.length ∧ i = .int .i64 k ∧ Below W.heap.size W wr ∧ Hid (∀ (j : Nat) (s : Stn), j < k → st[j]? = some s → stnE n s = 0)) (fun _ _ i _ => st.length - (intOf i).toNat)
  case atStart => exact ⟨0, Nat.zero_le _, rfl, Below.refl _ _, fun j s hj => by omega⟩
  case round =>
    obtain ⟨k, hk, rfl, hnx, HF⟩ := hrel
    have HN := Lib.hid hnx
    clear hnx
    by_cases hlt : k < st.length
    · obtain ⟨b, off, s, rfl, hs, hc0, hc1, hc2⟩ := (HR.out.below HN.out).stn hlt
      have HS := Lib.hid hs
      clear hs
      have g0 := (K0.out.below HN.out).cell 0
      simp at g0
      obtain ⟨sn, sf, sh⟩ := s
      dsimp only at hc0 hc1 hc2
      go_wp2
      refine gen_wp (fun V => Blk V wr.heap.size 86 #[.int .i64 sn, .int .u32 sf, .int .i64 sh] ∧ Below wr.heap.size wr V ∧ V.cell? ⟨w.heap.size, 0, none⟩ = some (.int .i64 n)) ⟨Blk.new_ wr _ _ rfl, (Below.refl _ _).alloc (Nat.le_refl _) _, Below.keeps ((Below.refl _ wr).alloc (Nat.le_refl _) _) g0⟩ ?_
      rintro V ⟨v0, hv, hn0⟩
      have f0 := v0.cell 0
      have f2 := v0.cell 2
      simp at f0 f2
      have HV := Lib.hid hv
      clear v0 hv g0 hc0 hc1 hc2
      cases hge : decide (0 ≤ sn)
      all_goals
        have HGE := Lib.hid hge
        refine wp_tail 14 (by kernel_rfl) (by kernel_rfl) ?_
        simp only [List.take_succ_cons, List.take_zero, List.drop_succ_cons, List.drop_zero]
        repeat still_step
        still_call (still_of (must_any _ _))
        repeat still_step
        still_call (still_of (within_any _ _ _ _))
        refine wpStill_nil ?_
      · obtain ⟨E, hE⟩ : ∃ E, first2 (mustE (false)) (withinE sh 1 100) = E := ⟨_, rfl⟩
        have hEs : stnE n ⟨sn, sf, sh⟩ = E := by rw [← hE]; unfold stnE; rw [HGE.out]; rfl
        have HE := Lib.hid hE
        have HES := Lib.hid hEs
        clear hE hEs
        cases hz : (E != 0)
        · go_wp2_with (go_at_call 51; refine (first_any (mustE (false)) (withinE sh 1 100) V.heap.size 2 _ ?_ ?_).mono ?_; (simp); (simp); rw [HE.out]; rintro e w' ⟨rfl, rfl⟩)
          go_roundw
          case rel => exact ⟨k + 1, by omega, by go_num, (HN.out.trans (HV.out.mono HN.out.size)).alloc (Nat.le_trans HN.out.size HV.out.size) _ |>.drew, fun j s hj hs => by
            rcases Nat.lt_succ_iff_lt_or_eq.1 hj with h | rfl
            · exact HF.out j s h hs
            · have := HS.out
              rw [this] at hs
              cases hs
              rw [HES.out]
              simpa using hz⟩
          case measure => simp [intOf]; omega
        · go_wp2_with (go_at_call 51; refine (first_any (mustE (false)) (withinE sh 1 100) V.heap.size 2 _ ?_ ?_).mono ?_; (simp); (simp); rw [HE.out]; rintro e w' ⟨rfl, rfl⟩)
          go_ret
          exact ⟨ret_int (by rw [rule9_at HS.out (fun j s hj hs => HF.out j s hj hs) (by rw [HES.out]; simpa using hz), HES.out]), Below.then_ HB.out ((HN.out.trans (HV.out.mono HN.out.size)).alloc (Nat.le_trans HN.out.size HV.out.size) _ |>.drew)⟩
      · obtain ⟨E, hE⟩ : ∃ E, first2 (mustE (decide (sn < n))) (withinE sh 1 100) = E := ⟨_, rfl⟩
        have hEs : stnE n ⟨sn, sf, sh⟩ = E := by rw [← hE]; unfold stnE; rw [HGE.out]; rfl
        have HE := Lib.hid hE
        have HES := Lib.hid hEs
        clear hE hEs
        cases hz : (E != 0)
        · go_wp2_with (go_at_call 51; refine (first_any (mustE (decide (sn < n))) (withinE sh 1 100) V.heap.size 2 _ ?_ ?_).mono ?_; (simp); (simp); rw [HE.out]; rintro e w' ⟨rfl, rfl⟩)
          go_roundw
          case rel => exact ⟨k + 1, by omega, by go_num, (HN.out.trans (HV.out.mono HN.out.size)).alloc (Nat.le_trans HN.out.size HV.out.size) _ |>.drew, fun j s hj hs => by
            rcases Nat.lt_succ_iff_lt_or_eq.1 hj with h | rfl
            · exact HF.out j s h hs
            · have := HS.out
              rw [this] at hs
              cases hs
              rw [HES.out]
              simpa using hz⟩
          case measure => simp [intOf]; omega
        · go_wp2_with (go_at_call 51; refine (first_any (mustE (decide (sn < n))) (withinE sh 1 100) V.heap.size 2 _ ?_ ?_).mono ?_; (simp); (simp); rw [HE.out]; rintro e w' ⟨rfl, rfl⟩)
          go_ret
          exact ⟨ret_int (by rw [rule9_at HS.out (fun j s hj hs => HF.out j s hj hs) (by rw [HES.out]; simpa using hz), HES.out]), Below.then_ HB.out ((HN.out.trans (HV.out.mono HN.out.size)).alloc (Nat.le_trans HN.out.size HV.out.size) _ |>.drew)⟩
    · go_wp2
      go_ret
      exact ⟨ret_int (rule9_all fun j s hj => HF.out j s (by have := (List.getElem?_eq_some_iff.1 hj).1; omega) hj).symm, Below.then_ HB.out HN.out⟩
end Go.Proofs.YtbmbaalidehoeaaDoor.K
