/- sennitref26: the document's answer on actuators; sennitlaw26.other. -/
import Derived.Test.YtmpkpikamogpdaaDoorOut
namespace Go.Proofs.YtmpkpikamogpdaaDoor.K
open Go.RowKit

theorem ret_u32 {a b : Int} (h : a = b) : Ending.returned (.int .u32 a) = .returned (.int .u32 b) := by rw [h]

theorem wrap64_in {x : Int} (h : 0 ≤ x) (h' : x < 256) : wrap64 x = x := by
  unfold wrap64
  omega
theorem u64diff {r s : Int} (hr : I64 r) (hs : I64 s) (h : s ≤ r) : IntKind.u64.wrap (IntKind.u64.wrap r - IntKind.u64.wrap s) = r - s := by
  obtain ⟨a, b⟩ := hr
  obtain ⟨c, d⟩ := hs
  simp only [IntKind.wrap_u64]
  omega

set_option maxHeartbeats 1000000 in
theorem other_any (s : ASt) (w : World) :
    Calls Tryd.prog 18 #[s.V] w fun e w' => e = .returned s.V ∧ Below w.heap.size w w' := by
  obtain ⟨any, seq, val, round⟩ := s
  simp only [ASt.V]
  go_enter Tryd.func18, Tryd.ntmps18
  go_wp2
  refine bodyPost_ret (v := .agg #[.bool any, .int .u32 seq, .int .u32 val, .int .i64 round]) (by simp [results, Tryd.results18, go_sem]) rfl ⟨rfl, ?_⟩
  repeat (first | (with_reducible exact Below.refl _ _) | (with_reducible refine Below.setCell ?_ (by simp) _) | (with_reducible refine Below.allocW ?_ _))

set_option maxHeartbeats 1000000 in
theorem refStale_any (s : ASt) (w : World) :
    Calls Tryd.prog 20 #[s.V] w fun e w' => e = .returned (ASt.V { s with round := -100 }) ∧ Below w.heap.size w w' := by
  obtain ⟨any, seq, val, round⟩ := s
  simp only [ASt.V]
  go_enter Tryd.func20, Tryd.ntmps20
  go_wp2
  refine bodyPost_ret (v := .agg #[.bool any, .int .u32 seq, .int .u32 val, .int .i64 (-100)]) (by simp [results, Tryd.results20, go_sem]) rfl ⟨rfl, ?_⟩
  repeat (first | (with_reducible exact Below.refl _ _) | (with_reducible refine Below.setCell ?_ (by simp) _) | (with_reducible refine Below.allocW ?_ _))

/-- A config's value whose stations are these. -/
def CfgV (w : World) (v : Value) (st : List Stn) : Prop :=
  ∃ (n : Int) (v1 v2 : Value) (long : Int) (v3 : Value) (A4 : Option Addr) (c4 : Nat) (miss good fresh : Int), v = .agg #[.int .i64 n, v1, v2, .int .i64 long, v3, .slice A4 st.length c4, .int .i64 miss, .int .i64 good, .int .i64 fresh] ∧ RdV w A4 (stnCells st) ∧ st.length ≤ 8 ∧
    v1.oneCell' = true ∧ v2.oneCell' = true ∧ v3.oneCell' = true

set_option maxRecDepth 100000 in
set_option maxHeartbeats 4000000 in
theorem refOut_any (n : Int) (A1 : Option Addr) (c1 : Nat) (ps : List Int) (A2 : Option Addr) (c2 : Nat) (ss : List Int) (long : Int) (A3 : Option Addr) (c3 : Nat) (bs : List Int) (A4 : Option Addr) (c4 : Nat) (st : List Stn) (miss good fresh : Int) (i : Int) (s : ASt) (r : Int) (w : World) (hr : I64 r) (hsr : I64 s.round) (hrd : RdV w A4 (stnCells st)) (hh : ∀ x ∈ st, 1 ≤ x.hold ∧ x.hold ≤ 100) :
    Calls Tryd.prog 22 #[(.agg #[.int .i64 n, .slice A1 ps.length c1, .slice A2 ss.length c2, .int .i64 long, .slice A3 bs.length c3, .slice A4 st.length c4, .int .i64 miss, .int .i64 good, .int .i64 fresh]), .int .i64 i, s.V, .int .i64 r] w fun e w' => e = .returned (.int .u32 (outE st i s r)) ∧ Below w.heap.size w w' := by
  obtain ⟨any, seq, val, round⟩ := s
  simp only [ASt.V]
  dsimp only at hsr
  by_cases h0 : i < 0
  · go_enter Tryd.func22, Tryd.ntmps22
    go_wp2
    go_ret
    refine ⟨ret_u32 (by rw [outE, stnAt, if_pos h0]), ?_⟩
    repeat (first | (with_reducible exact Below.refl _ _) | (with_reducible refine Below.setCell ?_ (by simp) _) | (with_reducible refine Below.allocW ?_ _))
  · obtain ⟨k, rfl⟩ : ∃ k : Nat, i = k := ⟨i.toNat, by omega⟩
    by_cases hk : k < st.length
    · have hk' : (k : Int) < (st.length : Int) := by omega
      have hrd2 := (hrd.below (ba w (.cells #[.int .i64 n, .slice A1 ps.length c1, .slice A2 ss.length c2, .int .i64 long, .slice A3 bs.length c3, .slice A4 st.length c4, .int .i64 miss, .int .i64 good, .int .i64 fresh] 44))).below (ba (w.alloc (.cells #[.int .i64 n, .slice A1 ps.length c1, .slice A2 ss.length c2, .int .i64 long, .slice A3 bs.length c3, .slice A4 st.length c4, .int .i64 miss, .int .i64 good, .int .i64 fresh] 44)) (.cells #[.bool any, .int .u32 seq, .int .u32 val, .int .i64 round] 51))
      obtain ⟨b, off, s, rfl, hsk, q0, q1, q2⟩ := hrd2.stn hk
      obtain ⟨x1, x2⟩ := hh s (List.mem_of_getElem? hsk)
      obtain ⟨node, safe, hold⟩ := s
      dsimp only at q0 q1 q2 x1 x2
      have HS := Lib.hid hsk
      have HO : Hid (outE st k ⟨any, seq, val, round⟩ r = if any && (decide (round ≤ r) && decide (r - round < hold)) then val else safe) := Lib.hid (by
        rw [outE, stnAt, if_neg (by omega), Int.toNat_natCast, hsk])
      clear hsk hrd hrd2 hh
      cases any
      · go_enter Tryd.func22, Tryd.ntmps22
        go_wp2
        go_ret
        refine ⟨ret_u32 (by rw [HO.out]; rfl), ?_⟩
        repeat (first | (with_reducible exact Below.refl _ _) | (with_reducible refine Below.setCell ?_ (by simp) _) | (with_reducible refine Below.allocW ?_ _))
      · by_cases hge : round ≤ r
        · obtain ⟨D, hD⟩ : ∃ D, r - round = D := ⟨_, rfl⟩
          have hW := (u64diff hr hsr hge).trans hD
          have HD := Lib.hid hD
          clear hD hr hsr
          by_cases hlt : D < hold
          · go_enter Tryd.func22, Tryd.ntmps22
            go_wp2
            go_ret
            refine ⟨ret_u32 (by rw [HO.out, HD.out, if_pos (by simp; omega)]), ?_⟩
            repeat (first | (with_reducible exact Below.refl _ _) | (with_reducible refine Below.setCell ?_ (by simp) _) | (with_reducible refine Below.allocW ?_ _))
          · go_enter Tryd.func22, Tryd.ntmps22
            go_wp2
            go_ret
            refine ⟨ret_u32 (by rw [HO.out, HD.out, if_neg (by simp; omega)]), ?_⟩
            repeat (first | (with_reducible exact Below.refl _ _) | (with_reducible refine Below.setCell ?_ (by simp) _) | (with_reducible refine Below.allocW ?_ _))
        · go_enter Tryd.func22, Tryd.ntmps22
          go_wp2
          go_ret
          refine ⟨ret_u32 (by rw [HO.out, if_neg (by simp; omega)]), ?_⟩
          repeat (first | (with_reducible exact Below.refl _ _) | (with_reducible refine Below.setCell ?_ (by simp) _) | (with_reducible refine Below.allocW ?_ _))
    · have hk' : (st.length : Int) ≤ (k : Int) := by omega
      go_enter Tryd.func22, Tryd.ntmps22
      go_wp2
      go_ret
      refine ⟨ret_u32 (by rw [outE, stnAt, if_neg (by omega), Int.toNat_natCast, List.getElem?_eq_none (by omega)]), ?_⟩
      repeat (first | (with_reducible exact Below.refl _ _) | (with_reducible refine Below.setCell ?_ (by simp) _) | (with_reducible refine Below.allocW ?_ _))

set_option maxRecDepth 100000 in
set_option maxHeartbeats 4000000 in
theorem refTake_any (n : Int) (A1 : Option Addr) (c1 : Nat) (ps : List Int) (A2 : Option Addr) (c2 : Nat) (ss : List Int) (long : Int) (A3 : Option Addr) (c3 : Nat) (bs : List Int) (A4 : Option Addr) (c4 : Nat) (st : List Stn) (miss good fresh : Int) (i : Int) (s : ASt) (d : ADl) (w : World) (hst : st.length ≤ 8) (hd : 0 ≤ d.station ∧ d.station < 256) :
    Calls Tryd.prog 21 #[(.agg #[.int .i64 n, .slice A1 ps.length c1, .slice A2 ss.length c2, .int .i64 long, .slice A3 bs.length c3, .slice A4 st.length c4, .int .i64 miss, .int .i64 good, .int .i64 fresh]), .int .i64 i, s.V, d.V] w fun e w' => e = .returned (.tuple #[(takeS st i s d).V, .bool (takeOk st i s d)]) ∧ Below w.heap.size w w' := by
  obtain ⟨any, seq, val, round⟩ := s
  obtain ⟨is, at_, kind, station, dseq, value, pair, command, dround⟩ := d
  simp only [ASt.V, ADl.V, ADl.cells]
  have hst' : st.length ≤ 9223372036854775807 := by omega
  obtain ⟨hd0, hd1⟩ := hd
  by_cases h0 : i < 0
  · skip
    have ho : takeOk st i ⟨any, seq, val, round⟩ ⟨is, at_, kind, station, dseq, value, pair, command, dround⟩ = false := by
      simp [takeOk, cond1, stnAt, h0]
    have HO := Lib.hid ho
    clear ho
    go_enter Tryd.func21, Tryd.ntmps21
    go_wp2
    refine bodyPost_ret (v := .tuple #[.agg #[.bool any, .int .u32 seq, .int .u32 val, .int .i64 round], .bool false]) (by simp [results, Tryd.results21, go_sem]) rfl ⟨?_, ?_⟩
    · simp only [takeS, HO.out, if_false, Bool.false_eq_true]
    · repeat (first | (with_reducible exact Below.refl _ _) | (with_reducible refine Below.setCell ?_ (by simp) _) | (with_reducible refine Below.allocW ?_ _))
  by_cases h1 : (st.length : Int) ≤ i
  · skip
    have ho : takeOk st i ⟨any, seq, val, round⟩ ⟨is, at_, kind, station, dseq, value, pair, command, dround⟩ = false := by
      have : st.length ≤ i.toNat := by omega
      simp [takeOk, cond1, stnAt, h0, this]
    have HO := Lib.hid ho
    clear ho
    go_enter Tryd.func21, Tryd.ntmps21
    go_wp2
    refine bodyPost_ret (v := .tuple #[.agg #[.bool any, .int .u32 seq, .int .u32 val, .int .i64 round], .bool false]) (by simp [results, Tryd.results21, go_sem]) rfl ⟨?_, ?_⟩
    · simp only [takeS, HO.out, if_false, Bool.false_eq_true]
    · repeat (first | (with_reducible exact Below.refl _ _) | (with_reducible refine Below.setCell ?_ (by simp) _) | (with_reducible refine Below.allocW ?_ _))
  have hsome : (stnAt st i).isSome = true := by
    rw [stnAt, if_neg h0, List.getElem?_eq_getElem (by omega)]; rfl
  have HSM := Lib.hid hsome
  clear hsome
  cases is
  · skip
    have ho : takeOk st i ⟨any, seq, val, round⟩ ⟨false, at_, kind, station, dseq, value, pair, command, dround⟩ = false := by
      simp [takeOk, cond1]
    have HO := Lib.hid ho
    clear ho
    go_enter Tryd.func21, Tryd.ntmps21
    go_wp2
    refine bodyPost_ret (v := .tuple #[.agg #[.bool any, .int .u32 seq, .int .u32 val, .int .i64 round], .bool false]) (by simp [results, Tryd.results21, go_sem]) rfl ⟨?_, ?_⟩
    · simp only [takeS, HO.out, if_false, Bool.false_eq_true]
    · repeat (first | (with_reducible exact Below.refl _ _) | (with_reducible refine Below.setCell ?_ (by simp) _) | (with_reducible refine Below.allocW ?_ _))
  by_cases h2 : kind = 2
  case neg =>
    have h2' : (kind == 2) = false := by simpa using h2
    have h2'' : (kind != 2) = true := by simpa using h2
    have ho : takeOk st i ⟨any, seq, val, round⟩ ⟨true, at_, kind, station, dseq, value, pair, command, dround⟩ = false := by
      simp [takeOk, cond2, h2]
    have HO := Lib.hid ho
    clear ho
    go_enter Tryd.func21, Tryd.ntmps21
    go_wp2
    refine bodyPost_ret (v := .tuple #[.agg #[.bool any, .int .u32 seq, .int .u32 val, .int .i64 round], .bool false]) (by simp [results, Tryd.results21, go_sem]) rfl ⟨?_, ?_⟩
    · simp only [takeS, HO.out, if_false, Bool.false_eq_true]
    · repeat (first | (with_reducible exact Below.refl _ _) | (with_reducible refine Below.setCell ?_ (by simp) _) | (with_reducible refine Below.allocW ?_ _))
  subst h2
  by_cases h3 : station = i
  case neg =>
    have h3' : (station == i) = false := by simpa using h3
    have h3'' : (station != i) = true := by simpa using h3
    have hws : wrap64 station = station := wrap64_in hd0 hd1
    have ho : takeOk st i ⟨any, seq, val, round⟩ ⟨true, at_, 2, station, dseq, value, pair, command, dround⟩ = false := by
      simp [takeOk, cond2, h3]
    have HO := Lib.hid ho
    clear ho
    go_enter Tryd.func21, Tryd.ntmps21
    go_wp2
    refine bodyPost_ret (v := .tuple #[.agg #[.bool any, .int .u32 seq, .int .u32 val, .int .i64 round], .bool false]) (by simp [results, Tryd.results21, go_sem]) rfl ⟨?_, ?_⟩
    · simp only [takeS, HO.out, if_false, Bool.false_eq_true]
    · repeat (first | (with_reducible exact Below.refl _ _) | (with_reducible refine Below.setCell ?_ (by simp) _) | (with_reducible refine Below.allocW ?_ _))
  subst h3
  by_cases h4 : command < 0
  · skip
    have ho : takeOk st station ⟨any, seq, val, round⟩ ⟨true, at_, 2, station, dseq, value, pair, command, dround⟩ = false := by
      have : decide (0 ≤ command) = false := by simp; omega
      simp [takeOk, cond3, this]
    have HO := Lib.hid ho
    clear ho
    go_enter Tryd.func21, Tryd.ntmps21
    go_wp2
    refine bodyPost_ret (v := .tuple #[.agg #[.bool any, .int .u32 seq, .int .u32 val, .int .i64 round], .bool false]) (by simp [results, Tryd.results21, go_sem]) rfl ⟨?_, ?_⟩
    · simp only [takeS, HO.out, if_false, Bool.false_eq_true]
    · repeat (first | (with_reducible exact Below.refl _ _) | (with_reducible refine Below.setCell ?_ (by simp) _) | (with_reducible refine Below.allocW ?_ _))
  by_cases h5 : pair = command
  case neg =>
    have h5' : (pair == command) = false := by simpa using h5
    have h5'' : (pair != command) = true := by simpa using h5
    have ho : takeOk st station ⟨any, seq, val, round⟩ ⟨true, at_, 2, station, dseq, value, pair, command, dround⟩ = false := by
      simp [takeOk, cond3, h5]
    have HO := Lib.hid ho
    clear ho
    go_enter Tryd.func21, Tryd.ntmps21
    go_wp2
    refine bodyPost_ret (v := .tuple #[.agg #[.bool any, .int .u32 seq, .int .u32 val, .int .i64 round], .bool false]) (by simp [results, Tryd.results21, go_sem]) rfl ⟨?_, ?_⟩
    · simp only [takeS, HO.out, if_false, Bool.false_eq_true]
    · repeat (first | (with_reducible exact Below.refl _ _) | (with_reducible refine Below.setCell ?_ (by simp) _) | (with_reducible refine Below.allocW ?_ _))
  subst h5
  by_cases h6 : dround < 0
  · skip
    have ho : takeOk st station ⟨any, seq, val, round⟩ ⟨true, at_, 2, station, dseq, value, pair, pair, dround⟩ = false := by
      have : decide (0 ≤ dround) = false := by simp; omega
      simp [takeOk, cond4, this]
    have HO := Lib.hid ho
    clear ho
    go_enter Tryd.func21, Tryd.ntmps21
    go_wp2
    refine bodyPost_ret (v := .tuple #[.agg #[.bool any, .int .u32 seq, .int .u32 val, .int .i64 round], .bool false]) (by simp [results, Tryd.results21, go_sem]) rfl ⟨?_, ?_⟩
    · simp only [takeS, HO.out, if_false, Bool.false_eq_true]
    · repeat (first | (with_reducible exact Below.refl _ _) | (with_reducible refine Below.setCell ?_ (by simp) _) | (with_reducible refine Below.allocW ?_ _))
  by_cases h7 : 1099511627776 < dround
  · skip
    have ho : takeOk st station ⟨any, seq, val, round⟩ ⟨true, at_, 2, station, dseq, value, pair, pair, dround⟩ = false := by
      have : decide (dround ≤ 1099511627776) = false := by simp; omega
      simp [takeOk, cond4, this]
    have HO := Lib.hid ho
    clear ho
    go_enter Tryd.func21, Tryd.ntmps21
    go_wp2
    refine bodyPost_ret (v := .tuple #[.agg #[.bool any, .int .u32 seq, .int .u32 val, .int .i64 round], .bool false]) (by simp [results, Tryd.results21, go_sem]) rfl ⟨?_, ?_⟩
    · simp only [takeS, HO.out, if_false, Bool.false_eq_true]
    · repeat (first | (with_reducible exact Below.refl _ _) | (with_reducible refine Below.setCell ?_ (by simp) _) | (with_reducible refine Below.allocW ?_ _))
  cases any
  · skip
    have ho : takeOk st station ⟨false, seq, val, round⟩ ⟨true, at_, 2, station, dseq, value, pair, pair, dround⟩ = true := by
      have c1 : decide (0 ≤ pair) = true := by simp; omega
      have c2 : decide (0 ≤ dround) = true := by simp; omega
      have c3 : decide (dround ≤ 1099511627776) = true := by simp; omega
      simp [takeOk, cond1, cond2, cond3, cond4, cond5, HSM.out, c1, c2, c3]
    have HO := Lib.hid ho
    clear ho
    go_enter Tryd.func21, Tryd.ntmps21
    go_wp2
    refine bodyPost_ret (v := .tuple #[.agg #[.bool true, .int .u32 dseq, .int .u32 value, .int .i64 dround], .bool true]) (by simp [results, Tryd.results21, go_sem]) rfl ⟨?_, ?_⟩
    · simp only [takeS, HO.out, if_true]
    · repeat (first | (with_reducible exact Below.refl _ _) | (with_reducible refine Below.setCell ?_ (by simp) _) | (with_reducible refine Below.allocW ?_ _))
  by_cases h8 : dseq ≤ seq
  · skip
    have ho : takeOk st station ⟨true, seq, val, round⟩ ⟨true, at_, 2, station, dseq, value, pair, pair, dround⟩ = false := by
      have : decide (seq < dseq) = false := by simp; omega
      simp [takeOk, cond5, this]
    have HO := Lib.hid ho
    clear ho
    go_enter Tryd.func21, Tryd.ntmps21
    go_wp2
    refine bodyPost_ret (v := .tuple #[.agg #[.bool true, .int .u32 seq, .int .u32 val, .int .i64 round], .bool false]) (by simp [results, Tryd.results21, go_sem]) rfl ⟨?_, ?_⟩
    · simp only [takeS, HO.out, if_false, Bool.false_eq_true]
    · repeat (first | (with_reducible exact Below.refl _ _) | (with_reducible refine Below.setCell ?_ (by simp) _) | (with_reducible refine Below.allocW ?_ _))
  · skip
    have ho : takeOk st station ⟨true, seq, val, round⟩ ⟨true, at_, 2, station, dseq, value, pair, pair, dround⟩ = true := by
      have c1 : decide (0 ≤ pair) = true := by simp; omega
      have c2 : decide (0 ≤ dround) = true := by simp; omega
      have c3 : decide (dround ≤ 1099511627776) = true := by simp; omega
      simp [takeOk, cond1, cond2, cond3, cond4, cond5, HSM.out, c1, c2, c3]
      omega
    have HO := Lib.hid ho
    clear ho
    go_enter Tryd.func21, Tryd.ntmps21
    go_wp2
    refine bodyPost_ret (v := .tuple #[.agg #[.bool true, .int .u32 dseq, .int .u32 value, .int .i64 dround], .bool true]) (by simp [results, Tryd.results21, go_sem]) rfl ⟨?_, ?_⟩
    · simp only [takeS, HO.out, if_true]
    · repeat (first | (with_reducible exact Below.refl _ _) | (with_reducible refine Below.setCell ?_ (by simp) _) | (with_reducible refine Below.allocW ?_ _))
theorem other_raw (any : Bool) (seq val round : Int) (w : World) :
    Calls Tryd.prog 18 #[.agg #[.bool any, .int .u32 seq, .int .u32 val, .int .i64 round]] w fun e w' => e = .returned (.agg #[.bool any, .int .u32 seq, .int .u32 val, .int .i64 round]) ∧ Below w.heap.size w w' := other_any ⟨any, seq, val, round⟩ w
theorem stale_raw (any : Bool) (seq val round : Int) (w : World) :
    Calls Tryd.prog 19 #[.agg #[.bool any, .int .u32 seq, .int .u32 val, .int .i64 round]] w fun e w' => e = .returned (.agg #[.bool any, .int .u32 seq, .int .u32 val, .int .i64 (-100)]) ∧ Below w.heap.size w w' := stale_any ⟨any, seq, val, round⟩ w
theorem refStale_raw (any : Bool) (seq val round : Int) (w : World) :
    Calls Tryd.prog 20 #[.agg #[.bool any, .int .u32 seq, .int .u32 val, .int .i64 round]] w fun e w' => e = .returned (.agg #[.bool any, .int .u32 seq, .int .u32 val, .int .i64 (-100)]) ∧ Below w.heap.size w w' := refStale_any ⟨any, seq, val, round⟩ w
end Go.Proofs.YtmpkpikamogpdaaDoor.K
