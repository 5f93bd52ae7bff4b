/- actuators.rounds, slices.Contains at []int64, Output, Stale. -/
import Derived.Test.YtmpkpikamogpdaaDoorTake
import Derived.Deep.RegionWith
namespace Go.Proofs.YtmpkpikamogpdaaDoor.K
open Go.RowKit

/-- Rounds from one on, so many, as far as there are such numbers. -/
def roundsL (f : Int) (k : Nat) : List Int := ((List.range k).map fun i => f + (i : Nat)).filter fun x => decide (x ≤ 9223372036854775807)
theorem roundsL_succ (f : Int) (k : Nat) : roundsL f (k + 1) = if f + k ≤ 9223372036854775807 then roundsL f k ++ [f + k] else roundsL f k := by
  simp only [roundsL, List.range_succ, List.map_append, List.filter_append, List.map_cons, List.map_nil]
  split
  · rename_i h; simp [h]
  · rename_i h; simp [h]
theorem roundsL_le (f : Int) (k : Nat) : (roundsL f k).length ≤ k := by
  have := List.length_filter_le (fun x => decide (x ≤ 9223372036854775807)) ((List.range k).map fun i => f + ((i : Nat) : Int))
  simpa [roundsL] using this
theorem roundsL_any (f : Int) (k : Nat) (r : Int) (hr : r ≤ 9223372036854775807) : (roundsL f k).any (fun x => r == x) = (decide (f ≤ r) && decide (r - f < k)) := by
  induction k with
  | zero =>
    simp [roundsL]
  | succ k ih =>
    rw [roundsL_succ]
    split
    · rw [List.any_append, ih]
      simp only [List.any_cons, List.any_nil, Bool.or_false]
      rw [Bool.eq_iff_iff]
      simp
      omega
    · rw [ih, Bool.eq_iff_iff]
      simp
      omega

theorem infoR64 : (Tryd.prog.info? 2).map (fun i => (i.zero, i.size, i.bytes)) = some (some (.int .i64 0), 1, 8) := by kernel_rfl
theorem wrap_over {f : Int} {k : Nat} (h1 : f ≤ 9223372036854775807) (h0 : -9223372036854775808 ≤ f) (h : 9223372036854775807 < f + k) (hk : k ≤ 200) : IntKind.i64.wrap (f + k) = f + k - 18446744073709551616 := by
  have e : (f + (k : Int)) % 18446744073709551616 = f + k := Int.emod_eq_of_lt (by omega) (by omega)
  show (if (true && decide ((f + (k : Int)) % 18446744073709551616 ≥ 9223372036854775808)) = true then (f + (k : Int)) % 18446744073709551616 - 18446744073709551616 else (f + (k : Int)) % 18446744073709551616) = _
  rw [e, if_pos (by simp; omega)]

def RetRounds (f : Int) (k : Nat) (w : World) (e : Ending) (w' : World) : Prop :=
  ∃ A c, e = .returned (.slice A (roundsL f k).length c) ∧ RdI w' A (roundsL f k) ∧ Below w.heap.size w w'

set_option maxRecDepth 100000 in
set_option maxHeartbeats 4000000 in
theorem rounds_any (f : Int) (m : Nat) (w : World) (hf : I64 f) (hm : m ≤ 100) :
    Calls Tryd.prog 43 #[.int .i64 f, .int .i64 m] w (RetRounds f m w) := by
  obtain ⟨i0, hi, hz0, hz1, hz2⟩ := info_parts infoR64
  obtain ⟨hf0, hf1⟩ := hf
  go_enter Tryd.func43, Tryd.ntmps43
  go_wp2
  go_loopw [5, 6, 8] (fun v _ i wr => ∃ k : Nat, k ≤ m ∧ i = .int .i64 k ∧ wr.ownsRow w.heap.size 2 1 v (roundsL f k).length ((roundsL f k).map (Value.int .i64)) ∧ Below w.heap.size w wr)
    (fun _ _ i _ => m - (intOf i).toNat)
  case atStart => exact ⟨0, Nat.zero_le _, rfl, World.ownsRow_nil _ _ _ _, Below.refl _ _⟩
  case round =>
    obtain ⟨k, hk, rfl, hown, hnx⟩ := hrel
    have hzr : w.heap.size ≤ wr.heap.size := hnx.size
    have hle := roundsL_le f k
    by_cases hlt : k < m
    · have hlt' : (k : Int) < (m : Int) := by omega
      by_cases hov : f + k ≤ 9223372036854775807
      · have HN := Lib.hid hnx
        have HO := Lib.hid hown
        clear hnx hown
        go_wp2_with (at_builtin; refine wpList_append_own _ rfl _ _ 107 rfl w.heap.size 2 i0 (.int .i64 0) 1 8 Tryd.underlying107 hi hz0 hz1 hz2 rfl (by decide) _ _ _ rfl (by exact (HO.out).alloc _) ⟨wr.heap.size, 0, none⟩ 1 1 [.int .i64 (f + k)] rfl rfl ?c1 ?c2 ?c3 ?c4 ?c5 ?_)
        case c1 => intro j u hj; match j, hj with | 0, hj => simp at hj; subst hj; simp [Addr.add]
        case c2 => intro u hu; simp at hu; subst hu; rfl
        case c3 => unfold maxLen; omega
        case c4 => omega
        case c5 => simp; omega
        · intro v' w1 hown' hgrow _
          go_wp2
          go_roundw
          case rel =>
            refine ⟨k + 1, by omega, by go_num, ?_, ?_⟩
            · rw [roundsL_succ, if_pos hov, List.map_append, List.length_append]
              exact hown'
            · refine ((HN.out.alloc hzr _).grown hgrow (by simp; omega) fun j hj => (HO.out.lt j hj).1)
          case measure => simp [intOf]; omega
      · have hw := wrap_over hf1 hf0 (by omega) (by omega : k ≤ 200)
        have HN := Lib.hid hnx
        have HO := Lib.hid hown
        have hneg : ¬ f ≤ f + k - 18446744073709551616 := by omega
        clear hnx hown
        go_wp2
        go_roundw
        case rel =>
          refine ⟨k + 1, by omega, by go_num, ?_, HN.out⟩
          rw [roundsL_succ, if_neg hov]
          exact HO.out
        case measure => simp [intOf]; omega
    · obtain rfl : k = m := by omega
      obtain ⟨A, c, rfl, hc, hc'⟩ := own_form hown
      have HN := Lib.hid hnx
      have HO := Lib.hid hown
      clear hnx hown
      go_wp2
      go_ret
      exact ⟨A, c, rfl, RdI.of_own HO.out, HN.out⟩
set_option maxHeartbeats 1000000 in
theorem index64_any (A : Option Addr) (c : Nat) (xs : List Int) (v : Int) (w : World) (hr : RdI w A xs) (hl : xs.length ≤ 17592186044416) :
    Calls Tryd.prog 58 #[.slice A xs.length c, .int .i64 v] w (RetIdx (fun x => v == x) xs w) := by
  go_enter Tryd.func58, Tryd.ntmps58
  go_wp2
  go_loop [5, 8] (fun _ i => ∃ k : Nat, k ≤ xs.length ∧ i = .int .i64 k ∧ ∀ j, j < k → (v == xs[j]?.getD 0) = false) (fun _ i => xs.length - (intOf i).toNat)
  case atStart => exact ⟨0, Nat.zero_le _, rfl, fun j hj => by omega⟩
  case round =>
    obtain ⟨k, hk, rfl, hf⟩ := hrel
    have HF := Lib.hid hf
    clear hf
    by_cases hlt : k < xs.length
    · obtain ⟨b, off, rfl, hcs⟩ := hr.at_ hlt
      have hcx := hcs k hlt
      obtain ⟨x, hx⟩ : ∃ x, xs[k]?.getD 0 = x := ⟨_, rfl⟩
      rw [hx] at hcx
      have HX := Lib.hid hx
      have HC := Lib.hid hcs
      have HR := Lib.hid hr
      clear hcs hr hx
      cases hp : (v == x)
      all_goals
        go_wp2
      · go_round
        case rel => exact ⟨k + 1, by omega, by go_num, fun j hj => by
          rcases Nat.lt_succ_iff_lt_or_eq.1 hj with h | rfl
          · exact HF.out j h
          · rw [HX.out]; exact hp⟩
        case measure => simp [intOf]; omega
      · go_ret
        exact ⟨_, rfl, .inr ⟨k, hlt, rfl, by rw [HX.out]; exact hp, HF.out⟩, rfl⟩
    · go_wp2
      go_ret
      exact ⟨_, rfl, .inl ⟨rfl, fun j hj => HF.out j (by omega)⟩, rfl⟩

set_option maxHeartbeats 400000 in
theorem contains64_any (A : Option Addr) (c : Nat) (xs : List Int) (v : Int) (w : World) (hr : RdI w A xs) (hl : xs.length ≤ 17592186044416) :
    Calls Tryd.prog 42 #[.slice A xs.length c, .int .i64 v] w fun e w' => e = .returned (.bool (xs.any (fun x => v == x))) ∧ w = w' := by
  go_enter Tryd.func42, Tryd.ntmps42
  go_wp2_with (go_at_call 58; refine (index64_any A c xs v _ hr hl).mono ?_; rintro e w' ⟨r, rfl, hx, rfl⟩)
  go_ret
  exact ⟨ret_bool (any_of_idx hx), rfl⟩


set_option maxHeartbeats 1000000 in
theorem stale_any (s : ASt) (w : World) :
    Calls Tryd.prog 19 #[s.V] w fun e w' => e = .returned (ASt.V { s with round := -100 }) ∧ Below w.heap.size w w' := by
  obtain ⟨any, seq, val, round⟩ := s
  simp only [ASt.V]
  go_enter Tryd.func19, Tryd.ntmps19
  go_wp2
  refine bodyPost_ret (v := .agg #[.bool any, .int .u32 seq, .int .u32 val, .int .i64 (-100)]) (by simp [results, Tryd.results19, go_sem]) rfl ⟨rfl, ?_⟩
  repeat (first | (with_reducible exact Below.refl _ _) | (with_reducible refine Below.setCell ?_ (by simp) _) | (with_reducible refine Below.allocW ?_ _))

/-- The output in a round. -/
def outE (sts : List Stn) (i : Int) (s : ASt) (r : Int) : Int :=
  match stnAt sts i with
  | none => 0
  | some x => if s.any && (decide (s.round ≤ r) && decide (r - s.round < x.hold)) then s.val else x.safe

set_option maxRecDepth 100000 in
set_option maxHeartbeats 4000000 in
theorem output_any (v : Value) (sts : List Stn) (i : Int) (s : ASt) (r : Int) (w : World) (hs : Signs w) (h : NetV w v sts) (hr : I64 r) (hsr : I64 s.round) (hh : ∀ x ∈ sts, 1 ≤ x.hold ∧ x.hold ≤ 100) :
    Calls Tryd.prog 14 #[v, .int .i64 i, s.V, .int .i64 r] w fun e w' => e = .returned (.int .u32 (outE sts i s r)) ∧ Below w.heap.size w w' := by
  obtain ⟨any, seq, val, round⟩ := s
  simp only [ASt.V]
  dsimp only at hsr
  have HST := Lib.hid (station_any v sts i (w.alloc (.cells #[.bool any, .int .u32 seq, .int .u32 val, .int .i64 round] 27)) (hs.below (ba _ _)) (h.below (ba _ _)))
  have hx : ∀ x, stnAt sts i = some x → 1 ≤ x.hold ∧ x.hold ≤ 100 := by
    intro x hx
    unfold stnAt at hx
    split at hx
    · cases hx
    · exact hh x (List.mem_of_getElem? hx)
  clear h hs hh
  obtain ⟨o, ho⟩ : ∃ o, stnAt sts i = o := ⟨_, rfl⟩
  have HO := Lib.hid ho
  rw [ho] at HST hx
  clear ho
  cases o with
  | none =>
    simp only [stnVal] at HST
    go_enter Tryd.func14, Tryd.ntmps14
    go_wp2_with (go_at_call 36; refine (HST.out).mono ?_; rintro e ws ⟨rfl, hbs⟩; have hk0 := (Blk.new_ w 27 #[.bool any, .int .u32 seq, .int .u32 val, .int .i64 round] rfl).below hbs; have hlt0 := hk0.lt; have c0 := hk0.cell 0; have c1 := hk0.cell 1; have c2 := hk0.cell 2; have c3 := hk0.cell 3; simp at c0 c1 c2 c3; have HB := Lib.hid (Below.then_ (ba _ _) hbs); clear hk0 hbs)
    go_ret
    refine ⟨?_, ?_⟩
    · simp only [outE, HO.out]; rfl
    · repeat (first | (with_reducible exact HB.out) | (with_reducible refine Below.setCell ?_ (by simp; omega) _) | (with_reducible refine Below.allocW ?_ _))
  | some x =>
    obtain ⟨hx0, hx1⟩ := hx x rfl
    obtain ⟨node, safe, hold⟩ := x
    dsimp only at hx0 hx1
    obtain ⟨H, rfl⟩ : ∃ H : Nat, hold = H := ⟨hold.toNat, by omega⟩
    simp only [stnVal] at HST
    obtain ⟨b, hb⟩ : ∃ b, (decide (round ≤ r) && decide (r - round < (H : Int))) = b := ⟨_, rfl⟩
    have hb' : (roundsL round H).any (fun x => r == x) = b := by rw [roundsL_any _ _ _ hr.2, hb]
    have HBB := Lib.hid hb
    have HBC := Lib.hid hb'
    have HRL := Lib.hid (roundsL_le round H)
    clear hb hb'
    cases any
    · go_enter Tryd.func14, Tryd.ntmps14
      go_wp2_with (go_at_call 36; refine (HST.out).mono ?_; rintro e ws ⟨rfl, hbs⟩; have hk0 := (Blk.new_ w 27 #[.bool false, .int .u32 seq, .int .u32 val, .int .i64 round] rfl).below hbs; have hlt0 := hk0.lt; have c0 := hk0.cell 0; have c1 := hk0.cell 1; have c2 := hk0.cell 2; have c3 := hk0.cell 3; simp at c0 c1 c2 c3; have HB := Lib.hid (Below.then_ (ba _ _) hbs); clear hk0 hbs)
      go_ret
      refine ⟨?_, ?_⟩
      · simp only [outE, HO.out]; rfl
      · repeat (first | (with_reducible exact HB.out) | (with_reducible refine Below.setCell ?_ (by simp; omega) _) | (with_reducible refine Below.allocW ?_ _))
    · cases b
      all_goals
        go_enter Tryd.func14, Tryd.ntmps14
        go_wp2_with (first | (go_at_call 36; refine (HST.out).mono ?_; rintro e ws ⟨rfl, hbs⟩; have hk0 := (Blk.new_ w 27 #[.bool true, .int .u32 seq, .int .u32 val, .int .i64 round] rfl).below hbs; have hlt0 := hk0.lt; have c0 := hk0.cell 0; have c1 := hk0.cell 1; have c2 := hk0.cell 2; have c3 := hk0.cell 3; simp at c0 c1 c2 c3; have HB := Lib.hid (Below.then_ (ba _ _) hbs); clear hk0 hbs) | (go_at_call 43; refine (rounds_any round H _ hsr (by omega)).mono ?_; rintro e wr ⟨Ar, cr, rfl, hri, hbr⟩; have f0 := Below.keeps hbr (Below.keeps (ba _ _) c0); have f2 := Below.keeps hbr (Below.keeps (ba _ _) c2); have f3 := ((Blk.new_ ws 100 #[.int .i64 node, .int .u32 safe, .int .i64 H] rfl).below hbr).cell 1; simp at f3; have HBR := Lib.hid (Below.then_ (ba _ _) hbr); clear hbr) | (go_at_call 42; refine (contains64_any Ar cr _ r _ hri (by have := HRL.out; omega)).mono ?_; rw [HBC.out]; rintro e w2 ⟨rfl, rfl⟩))
        go_ret
        refine ⟨?_, ?_⟩
        · simp only [outE, HO.out, HBB.out]; rfl
        · exact Below.then_ HB.out HBR.out
end Go.Proofs.YtmpkpikamogpdaaDoor.K
