/- actuators.Take: its five conditions, and the whole. -/
import Derived.Test.YtmpkpikamogpdaaDoorAct
import Derived.Deep.RegionHeld3
namespace Go.Proofs.YtmpkpikamogpdaaDoor.K
open Go.RowKit

/-- A station's state, and what is delivered. -/
structure ASt where
  any : Bool
  seq : Int
  val : Int
  round : Int
structure ADl where
  is : Bool
  at_ : Int
  kind : Int
  station : Int
  seq : Int
  value : Int
  pair : Int
  command : Int
  round : Int
def ASt.V (s : ASt) : Value := .agg #[.bool s.any, .int .u32 s.seq, .int .u32 s.val, .int .i64 s.round]
def ADl.cells (d : ADl) : Array Value := #[.bool d.is, .int .i64 d.at_, .int .u8 d.kind, .int .u8 d.station, .int .u32 d.seq, .int .u32 d.value, .int .i64 d.pair, .int .i64 d.command, .int .i64 d.round]
def cond1 (th : Bool) (d : ADl) : Bool := th && d.is
def cond2 (i : Int) (d : ADl) : Bool := d.kind == 2 && d.station == i
def cond3 (d : ADl) : Bool := decide (0 ≤ d.command) && d.pair == d.command
def cond4 (d : ADl) : Bool := decide (0 ≤ d.round) && decide (d.round ≤ 1099511627776)
def cond5 (s : ASt) (d : ADl) : Bool := !s.any || decide (s.seq < d.seq)

set_option maxHeartbeats 1000000 in
theorem take1_any (T D : Nat) (th : Bool) (d : ADl) (w : World) (h0 : w.cell? ⟨T, 0, none⟩ = some (.bool th)) (h1 : w.cell? ⟨D, 0, none⟩ = some (.bool d.is)) :
    Calls Tryd.prog 37 #[.pointer (some ⟨T, 0, none⟩), .pointer (some ⟨D, 0, none⟩)] w fun e w' => e = .returned (.bool (cond1 th d)) ∧ w = w' := by
  cases th
  all_goals
    go_enter Tryd.func37, Tryd.ntmps37
    go_wp2
    go_ret
    exact ⟨rfl, rfl⟩
set_option maxHeartbeats 1000000 in
theorem take2_any (P I : Nat) (i : Int) (d : ADl) (w : World) (hd : 0 ≤ d.station ∧ d.station < 256) (h0 : w.cell? ⟨P, 0, none⟩ = some (.int .u8 d.kind)) (h1 : w.cell? ⟨P, 1, none⟩ = some (.int .u8 d.station)) (h2 : w.cell? ⟨I, 0, none⟩ = some (.int .i64 i)) :
    Calls Tryd.prog 38 #[.pointer (some ⟨P, 0, none⟩), .pointer (some ⟨I, 0, none⟩)] w fun e w' => e = .returned (.bool (cond2 i d)) ∧ w = w' := by
  by_cases hk : d.kind = 2
  · go_enter Tryd.func38, Tryd.ntmps38
    go_wp2
    go_ret
    exact ⟨ret_bool (by unfold cond2; simp [hk]), rfl⟩
  · go_enter Tryd.func38, Tryd.ntmps38
    go_wp2
    go_ret
    exact ⟨ret_bool (by unfold cond2; simp [hk]), rfl⟩
set_option maxHeartbeats 1000000 in
theorem take3_any (D : Nat) (d : ADl) (w : World) (h0 : w.cell? ⟨D, 6, none⟩ = some (.int .i64 d.pair)) (h1 : w.cell? ⟨D, 7, none⟩ = some (.int .i64 d.command)) :
    Calls Tryd.prog 39 #[.pointer (some ⟨D, 0, none⟩)] w fun e w' => e = .returned (.bool (cond3 d)) ∧ w = w' := by
  by_cases hk : 0 ≤ d.command
  · go_enter Tryd.func39, Tryd.ntmps39
    go_wp2
    go_ret
    exact ⟨ret_bool (by unfold cond3; simp [show (0 ≤ d.command) from hk]), rfl⟩
  · go_enter Tryd.func39, Tryd.ntmps39
    go_wp2
    go_ret
    exact ⟨ret_bool (by unfold cond3; simp; omega), rfl⟩
set_option maxHeartbeats 1000000 in
theorem take4_any (D : Nat) (d : ADl) (w : World) (h0 : w.cell? ⟨D, 8, none⟩ = some (.int .i64 d.round)) :
    Calls Tryd.prog 40 #[.pointer (some ⟨D, 0, none⟩)] w fun e w' => e = .returned (.bool (cond4 d)) ∧ w = w' := by
  by_cases hk : 0 ≤ d.round
  · go_enter Tryd.func40, Tryd.ntmps40
    go_wp2
    go_ret
    exact ⟨ret_bool (by unfold cond4; simp [show (0 ≤ d.round) from hk]), rfl⟩
  · go_enter Tryd.func40, Tryd.ntmps40
    go_wp2
    go_ret
    exact ⟨ret_bool (by unfold cond4; simp; omega), rfl⟩
set_option maxHeartbeats 1000000 in
theorem take5_any (S P : Nat) (s : ASt) (d : ADl) (w : World) (h0 : w.cell? ⟨S, 0, none⟩ = some (.bool s.any)) (h1 : w.cell? ⟨S, 1, none⟩ = some (.int .u32 s.seq)) (h2 : w.cell? ⟨P, 2, none⟩ = some (.int .u32 d.seq)) :
    Calls Tryd.prog 41 #[.pointer (some ⟨S, 0, none⟩), .pointer (some ⟨P, 0, none⟩)] w fun e w' => e = .returned (.bool (cond5 s d)) ∧ w = w' := by
  cases ha : s.any
  · rw [ha] at h0
    go_enter Tryd.func41, Tryd.ntmps41
    go_wp2
    go_ret
    exact ⟨ret_bool (by unfold cond5; simp [ha]), rfl⟩
  · rw [ha] at h0
    go_enter Tryd.func41, Tryd.ntmps41
    go_wp2
    go_ret
    exact ⟨ret_bool (by unfold cond5; simp [ha]), rfl⟩

/-- What Take answers. -/
def takeOk (sts : List Stn) (i : Int) (s : ASt) (d : ADl) : Bool :=
  cond1 (stnAt sts i).isSome d && cond2 i d && cond3 d && cond4 d && cond5 s d
def takeC (sts : List Stn) (i : Int) (s : ASt) (d : ADl) : Nat → Bool
  | 0 => cond1 (stnAt sts i).isSome d | 1 => cond2 i d | 2 => cond3 d | 3 => cond4 d | _ => cond5 s d
theorem takeOk_all {sts : List Stn} {i : Int} {s : ASt} {d : ADl} (h : ∀ j, j < 5 → takeC sts i s d j = true) : takeOk sts i s d = true := by
  have h0 := h 0 (by omega)
  have h1 := h 1 (by omega)
  have h2 := h 2 (by omega)
  have h3 := h 3 (by omega)
  have h4 := h 4 (by omega)
  simp only [takeC] at h0 h1 h2 h3 h4
  simp [takeOk, h0, h1, h2, h3, h4]
theorem takeOk_not {sts : List Stn} {i : Int} {s : ASt} {d : ADl} (j : Nat) (hj : j < 5) (h : takeC sts i s d j = false) : takeOk sts i s d = false := by
  match j, hj with
  | 0, _ => simp only [takeC] at h; simp [takeOk, h]
  | 1, _ => simp only [takeC] at h; simp [takeOk, h]
  | 2, _ => simp only [takeC] at h; simp [takeOk, h]
  | 3, _ => simp only [takeC] at h; simp [takeOk, h]
  | 4, _ => simp only [takeC] at h; simp [takeOk, h]
def takeS (sts : List Stn) (i : Int) (s : ASt) (d : ADl) : ASt := if takeOk sts i s d then ⟨true, d.seq, d.value, d.round⟩ else s
def ADl.V (d : ADl) : Value := .agg d.cells

theorem boxes4 {w ws : World} {t0 t1 t2 t3 : TypeId} {a b c d : Array Value} (hb : Below ((((w.alloc (.cells a t0)).alloc (.cells b t1)).alloc (.cells c t2)).alloc (.cells d t3)).heap.size ((((w.alloc (.cells a t0)).alloc (.cells b t1)).alloc (.cells c t2)).alloc (.cells d t3)) ws) :
    Blk ws w.heap.size t0 a ∧ Blk ws (w.heap.size + 1) t1 b ∧ Blk ws (w.heap.size + 1 + 1) t2 c ∧ Blk ws (w.heap.size + 1 + 1 + 1) t3 d ∧ Below w.heap.size w ws :=
  ⟨((((Blk.new_ w t0 a rfl).alloc _).alloc _).alloc _).below hb, (((Blk.new_ (w.alloc (.cells a t0)) t1 b (by simp)).alloc _).alloc _).below hb, ((Blk.new_ ((w.alloc (.cells a t0)).alloc (.cells b t1)) t2 c (by simp)).alloc _).below hb, (Blk.new_ (((w.alloc (.cells a t0)).alloc (.cells b t1)).alloc (.cells c t2)) t3 d (by simp)).below hb,
    Below.then_ (Below.allocW (Below.allocW (Below.allocW (Below.allocW (Below.refl _ w) _) _) _) _) hb⟩
theorem stnVal_some (o : Option Stn) : ∃ a b c, stnVal o = .tuple #[.agg #[.int .i64 a, .int .u32 b, .int .i64 c], .bool o.isSome] := by
  cases o
  · exact ⟨0, 0, 0, rfl⟩
  · exact ⟨_, _, _, rfl⟩

set_option maxRecDepth 100000 in
set_option maxHeartbeats 8000000 in
theorem take_any (v : Value) (sts : List Stn) (i : Int) (s : ASt) (d : ADl) (w : World) (hs : Signs w) (h : NetV w v sts) (hd : 0 ≤ d.station ∧ d.station < 256) :
    Calls Tryd.prog 12 #[v, .int .i64 i, s.V, d.V] w fun e w' => e = .returned (.tuple #[(takeS sts i s d).V, .bool (takeOk sts i s d)]) ∧ Below w.heap.size w w' := by
  obtain ⟨any, seq, val, round⟩ := s
  obtain ⟨is, at_, kind, station, dseq, value, pair, command, dround⟩ := d
  simp only [ASt.V, ADl.V, ADl.cells]
  have HST := Lib.hid fun (W : World) (hb : Below w.heap.size w W) => station_any v sts i W (hs.below hb) (h.below hb)
  clear h hs
  go_enter Tryd.func12, Tryd.ntmps12
  go_wp2_with (first | (go_at_call 36; refine (HST.out _ ?_).mono ?_; (repeat (first | (with_reducible exact Below.refl _ _) | (with_reducible refine Below.allocW ?_ _))); rintro e ws ⟨rfl, hbs⟩; obtain ⟨sa, sb, sc, esv⟩ := stnVal_some (stnAt sts i); obtain ⟨th, eth⟩ : ∃ th, (stnAt sts i).isSome = th := ⟨_, rfl⟩; rw [esv, eth]; obtain ⟨hk0, hk1, hk2, hk3, hbw⟩ := boxes4 hbs; obtain ⟨q0, q1, q2, q3, q4, q5, q6, q7, q8⟩ := box9 hk2; have hlt3 := hk3.lt; have hlt2 := hk2.lt; have hlt1 := hk1.lt; have hlt0 := hk0.lt))
  have HBW := Lib.hid hbw
  have HK := Lib.hid (And.intro hk0 (And.intro hk1 (And.intro hk2 hk3)))
  clear hk0 hk1 hk2 hk3 hbw hbs esv q0 q1 q2 q3 q4 q5 q6 q7 q8
  obtain ⟨B, eB⟩ : ∃ B, w.heap.size = B := ⟨_, rfl⟩
  obtain ⟨T, eT⟩ : ∃ T, ws.heap.size = T := ⟨_, rfl⟩
  refine gen_wp (fun W => Hid (Blk W w.heap.size 3 #[.int .i64 i] ∧ Blk W (w.heap.size + 1) 27 #[.bool any, .int .u32 seq, .int .u32 val, .int .i64 round] ∧ Blk W (w.heap.size + 1 + 1) 36 #[.bool is, .int .i64 at_, .int .u8 kind, .int .u8 station, .int .u32 dseq, .int .u32 value, .int .i64 pair, .int .i64 command, .int .i64 dround] ∧ Blk W (w.heap.size + 1 + 1 + 1) 27 #[.bool false, .int .u32 0, .int .u32 0, .int .i64 0] ∧
      Blk W (ws.heap.size + 1) 4 #[.bool th] ∧ Blk W (ws.heap.size + 1 + 1) 32 #[.int .u8 kind, .int .u8 station, .int .u32 dseq, .int .u32 value] ∧
      Blk W (ws.heap.size + 1 + 1 + 1) 104 #[.func (.func 37) #[] #[.pointer (some ⟨ws.heap.size + 1, 0, none⟩), .pointer (some ⟨w.heap.size + 1 + 1, 0, none⟩)], .func (.func 38) #[] #[.pointer (some ⟨ws.heap.size + 1 + 1, 0, none⟩), .pointer (some ⟨w.heap.size, 0, none⟩)], .func (.func 39) #[] #[.pointer (some ⟨w.heap.size + 1 + 1, 0, none⟩)], .func (.func 40) #[] #[.pointer (some ⟨w.heap.size + 1 + 1, 0, none⟩)], .func (.func 41) #[] #[.pointer (some ⟨w.heap.size + 1, 0, none⟩), .pointer (some ⟨ws.heap.size + 1 + 1, 0, none⟩)]]) ∧ Below w.heap.size w W) ⟨?_, ?_⟩ ?_
  · obtain ⟨a0, a1, a2, a3⟩ := HK.out
    exact Lib.hid ⟨(((a0.alloc _).alloc _).alloc _).alloc _, (((a1.alloc _).alloc _).alloc _).alloc _, (((a2.alloc _).alloc _).alloc _).alloc _, (((a3.alloc _).alloc _).alloc _).alloc _,
      ((Blk.new_ (ws.alloc _) _ _ (by simp)).alloc _).alloc _, (Blk.new_ ((ws.alloc _).alloc _) _ _ (by simp)).alloc _, Blk.new_ (((ws.alloc _).alloc _).alloc _) _ _ (by simp)⟩
  · repeat (first | (with_reducible exact HBW.out) | (with_reducible refine Below.allocW ?_ _))
  rw [eB, eT]
  rintro W ⟨hW, hbW⟩
  have HBB : Hid (Below w.heap.size w W) := Lib.hid (by rw [eB]; exact hbW)
  clear hbW HK HBW HST hlt0 hlt1 hlt2 hlt3
  go_loopw [14, 36] (fun _ x wr => ∃ k : Nat, k ≤ 5 ∧ x = .int .i64 k ∧ Below W.heap.size W wr ∧ Hid (∀ j, j < k → takeC sts i ⟨any, seq, val, round⟩ ⟨is, at_, kind, station, dseq, value, pair, command, dround⟩ j = true)) (fun _ x _ => 5 - (intOf x).toNat)
  case atStart => exact ⟨0, Nat.zero_le _, rfl, Below.refl _ _, Lib.hid fun j hj => by omega⟩
  case round =>
    obtain ⟨k, hk, rfl, hnx, HF⟩ := hrel
    have HN := Lib.hid hnx
    obtain ⟨b0, b1, b2, b3, b4, b5, b6⟩ := hW.out
    have c0 := (b0.below hnx).cell 0
    have c1 := (b1.below hnx).cell 0
    have c2 := (b1.below hnx).cell 1
    have c3 := (b1.below hnx).cell 2
    have c4 := (b1.below hnx).cell 3
    obtain ⟨d0, d1, d2, d3, d4, d5, d6, d7, d8⟩ := box9 (b2.below hnx)
    have e0 := (b3.below hnx).cell 0
    have e1 := (b3.below hnx).cell 1
    have e2 := (b3.below hnx).cell 2
    have e3 := (b3.below hnx).cell 3
    have z0 := (b3.below hnx).frozen 0
    have z1 := (b3.below hnx).frozen 1
    have z2 := (b3.below hnx).frozen 2
    have z3 := (b3.below hnx).frozen 3
    have g0 := (b4.below hnx).cell 0
    have p0 := (b5.below hnx).cell 0
    have p1 := (b5.below hnx).cell 1
    have p2 := (b5.below hnx).cell 2
    have p3 := (b5.below hnx).cell 3
    have r0 := (b6.below hnx).cell 0
    have r1 := (b6.below hnx).cell 1
    have r2 := (b6.below hnx).cell 2
    have r3 := (b6.below hnx).cell 3
    have r4 := (b6.below hnx).cell 4
    have y0 := (b0.below hnx).lt
    have y1 := (b1.below hnx).lt
    have y2 := (b2.below hnx).lt
    have y3 := (b3.below hnx).lt
    have y4 := (b4.below hnx).lt
    have y5 := (b5.below hnx).lt
    have y6 := (b6.below hnx).lt
    clear hnx b0 b1 b2 b3 b4 b5 b6
    simp at c0 c1 c2 c3 c4 e0 e1 e2 e3 g0 p0 p1 p2 p3 r0 r1 r2 r3 r4
    by_cases hlt : k < 5
    · rcases (show k = 0 ∨ k = 1 ∨ k = 2 ∨ k = 3 ∨ k = 4 by omega) with rfl | rfl | rfl | rfl | rfl
      · obtain ⟨r, hr⟩ : ∃ r, cond1 th ⟨is, at_, kind, station, dseq, value, pair, command, dround⟩ = r := ⟨_, rfl⟩
        have HR := Lib.hid hr
        have htc : takeC sts i ⟨any, seq, val, round⟩ ⟨is, at_, kind, station, dseq, value, pair, command, dround⟩ 0 = r := by rw [← hr, ← eth]; rfl
        have HTC := Lib.hid htc
        have HCL := Lib.hid fun (o : Obj) => take1_any _ _ th ⟨is, at_, kind, station, dseq, value, pair, command, dround⟩ (wr.alloc o) (Below.keeps (ba _ _) g0) (Below.keeps (ba _ _) d0)
        clear htc hr
        cases r
        · go_wp2_with (go_at_call 37; refine (HCL.out _).mono ?_; rw [HR.out]; rintro e w1 ⟨rfl, rfl⟩)
          have ho := takeOk_not 0 (by omega) HTC.out
          refine bodyPost_ret (v := .tuple #[.agg #[.bool any, .int .u32 seq, .int .u32 val, .int .i64 round], .bool false]) (by simp [results, Tryd.results12, go_sem, y3, e0, e1, e2, e3]) rfl ⟨?_, ?_⟩
          · simp only [takeS, ho, if_false, Bool.false_eq_true]
          · have hb9 : Below w.heap.size w wr := Below.then_ HBB.out HN.out
            have hb8 := hb9.size
            repeat (first | (with_reducible exact hb9) | (with_reducible refine Below.allocW ?_ _) | (with_reducible refine Below.setCell ?_ (by simp; omega) _))
        · go_wp2_with (go_at_call 37; refine (HCL.out _).mono ?_; rw [HR.out]; rintro e w1 ⟨rfl, rfl⟩)
          go_roundw
          case rel =>
            refine ⟨1, by omega, by go_num, Below.allocW HN.out _, Lib.hid fun j hj => ?_⟩
            rcases Nat.lt_succ_iff_lt_or_eq.1 hj with h | rfl
            · exact HF.out j h
            · exact HTC.out
          case measure => simp [intOf]
      · obtain ⟨r, hr⟩ : ∃ r, cond2 i ⟨is, at_, kind, station, dseq, value, pair, command, dround⟩ = r := ⟨_, rfl⟩
        have HR := Lib.hid hr
        have htc : takeC sts i ⟨any, seq, val, round⟩ ⟨is, at_, kind, station, dseq, value, pair, command, dround⟩ 1 = r := by rw [← hr]; rfl
        have HTC := Lib.hid htc
        have HCL := Lib.hid fun (o : Obj) => take2_any _ _ i ⟨is, at_, kind, station, dseq, value, pair, command, dround⟩ (wr.alloc o) hd (Below.keeps (ba _ _) p0) (Below.keeps (ba _ _) p1) (Below.keeps (ba _ _) c0)
        clear htc hr
        cases r
        · go_wp2_with (go_at_call 38; refine (HCL.out _).mono ?_; rw [HR.out]; rintro e w1 ⟨rfl, rfl⟩)
          have ho := takeOk_not 1 (by omega) HTC.out
          refine bodyPost_ret (v := .tuple #[.agg #[.bool any, .int .u32 seq, .int .u32 val, .int .i64 round], .bool false]) (by simp [results, Tryd.results12, go_sem, y3, e0, e1, e2, e3]) rfl ⟨?_, ?_⟩
          · simp only [takeS, ho, if_false, Bool.false_eq_true]
          · have hb9 : Below w.heap.size w wr := Below.then_ HBB.out HN.out
            have hb8 := hb9.size
            repeat (first | (with_reducible exact hb9) | (with_reducible refine Below.allocW ?_ _) | (with_reducible refine Below.setCell ?_ (by simp; omega) _))
        · go_wp2_with (go_at_call 38; refine (HCL.out _).mono ?_; rw [HR.out]; rintro e w1 ⟨rfl, rfl⟩)
          go_roundw
          case rel =>
            refine ⟨2, by omega, by go_num, Below.allocW HN.out _, Lib.hid fun j hj => ?_⟩
            rcases Nat.lt_succ_iff_lt_or_eq.1 hj with h | rfl
            · exact HF.out j h
            · exact HTC.out
          case measure => simp [intOf]
      · obtain ⟨r, hr⟩ : ∃ r, cond3 ⟨is, at_, kind, station, dseq, value, pair, command, dround⟩ = r := ⟨_, rfl⟩
        have HR := Lib.hid hr
        have htc : takeC sts i ⟨any, seq, val, round⟩ ⟨is, at_, kind, station, dseq, value, pair, command, dround⟩ 2 = r := by rw [← hr]; rfl
        have HTC := Lib.hid htc
        have HCL := Lib.hid fun (o : Obj) => take3_any _ ⟨is, at_, kind, station, dseq, value, pair, command, dround⟩ (wr.alloc o) (Below.keeps (ba _ _) d6) (Below.keeps (ba _ _) d7)
        clear htc hr
        cases r
        · go_wp2_with (go_at_call 39; refine (HCL.out _).mono ?_; rw [HR.out]; rintro e w1 ⟨rfl, rfl⟩)
          have ho := takeOk_not 2 (by omega) HTC.out
          refine bodyPost_ret (v := .tuple #[.agg #[.bool any, .int .u32 seq, .int .u32 val, .int .i64 round], .bool false]) (by simp [results, Tryd.results12, go_sem, y3, e0, e1, e2, e3]) rfl ⟨?_, ?_⟩
          · simp only [takeS, ho, if_false, Bool.false_eq_true]
          · have hb9 : Below w.heap.size w wr := Below.then_ HBB.out HN.out
            have hb8 := hb9.size
            repeat (first | (with_reducible exact hb9) | (with_reducible refine Below.allocW ?_ _) | (with_reducible refine Below.setCell ?_ (by simp; omega) _))
        · go_wp2_with (go_at_call 39; refine (HCL.out _).mono ?_; rw [HR.out]; rintro e w1 ⟨rfl, rfl⟩)
          go_roundw
          case rel =>
            refine ⟨3, by omega, by go_num, Below.allocW HN.out _, Lib.hid fun j hj => ?_⟩
            rcases Nat.lt_succ_iff_lt_or_eq.1 hj with h | rfl
            · exact HF.out j h
            · exact HTC.out
          case measure => simp [intOf]
      · obtain ⟨r, hr⟩ : ∃ r, cond4 ⟨is, at_, kind, station, dseq, value, pair, command, dround⟩ = r := ⟨_, rfl⟩
        have HR := Lib.hid hr
        have htc : takeC sts i ⟨any, seq, val, round⟩ ⟨is, at_, kind, station, dseq, value, pair, command, dround⟩ 3 = r := by rw [← hr]; rfl
        have HTC := Lib.hid htc
        have HCL := Lib.hid fun (o : Obj) => take4_any _ ⟨is, at_, kind, station, dseq, value, pair, command, dround⟩ (wr.alloc o) (Below.keeps (ba _ _) d8)
        clear htc hr
        cases r
        · go_wp2_with (go_at_call 40; refine (HCL.out _).mono ?_; rw [HR.out]; rintro e w1 ⟨rfl, rfl⟩)
          have ho := takeOk_not 3 (by omega) HTC.out
          refine bodyPost_ret (v := .tuple #[.agg #[.bool any, .int .u32 seq, .int .u32 val, .int .i64 round], .bool false]) (by simp [results, Tryd.results12, go_sem, y3, e0, e1, e2, e3]) rfl ⟨?_, ?_⟩
          · simp only [takeS, ho, if_false, Bool.false_eq_true]
          · have hb9 : Below w.heap.size w wr := Below.then_ HBB.out HN.out
            have hb8 := hb9.size
            repeat (first | (with_reducible exact hb9) | (with_reducible refine Below.allocW ?_ _) | (with_reducible refine Below.setCell ?_ (by simp; omega) _))
        · go_wp2_with (go_at_call 40; refine (HCL.out _).mono ?_; rw [HR.out]; rintro e w1 ⟨rfl, rfl⟩)
          go_roundw
          case rel =>
            refine ⟨4, by omega, by go_num, Below.allocW HN.out _, Lib.hid fun j hj => ?_⟩
            rcases Nat.lt_succ_iff_lt_or_eq.1 hj with h | rfl
            · exact HF.out j h
            · exact HTC.out
          case measure => simp [intOf]
      · obtain ⟨r, hr⟩ : ∃ r, cond5 ⟨any, seq, val, round⟩ ⟨is, at_, kind, station, dseq, value, pair, command, dround⟩ = r := ⟨_, rfl⟩
        have HR := Lib.hid hr
        have htc : takeC sts i ⟨any, seq, val, round⟩ ⟨is, at_, kind, station, dseq, value, pair, command, dround⟩ 4 = r := by rw [← hr]; rfl
        have HTC := Lib.hid htc
        have HCL := Lib.hid fun (o : Obj) => take5_any _ _ ⟨any, seq, val, round⟩ ⟨is, at_, kind, station, dseq, value, pair, command, dround⟩ (wr.alloc o) (Below.keeps (ba _ _) c1) (Below.keeps (ba _ _) c2) (Below.keeps (ba _ _) p2)
        clear htc hr
        cases r
        · go_wp2_with (go_at_call 41; refine (HCL.out _).mono ?_; rw [HR.out]; rintro e w1 ⟨rfl, rfl⟩)
          have ho := takeOk_not 4 (by omega) HTC.out
          refine bodyPost_ret (v := .tuple #[.agg #[.bool any, .int .u32 seq, .int .u32 val, .int .i64 round], .bool false]) (by simp [results, Tryd.results12, go_sem, y3, e0, e1, e2, e3]) rfl ⟨?_, ?_⟩
          · simp only [takeS, ho, if_false, Bool.false_eq_true]
          · have hb9 : Below w.heap.size w wr := Below.then_ HBB.out HN.out
            have hb8 := hb9.size
            repeat (first | (with_reducible exact hb9) | (with_reducible refine Below.allocW ?_ _) | (with_reducible refine Below.setCell ?_ (by simp; omega) _))
        · go_wp2_with (go_at_call 41; refine (HCL.out _).mono ?_; rw [HR.out]; rintro e w1 ⟨rfl, rfl⟩)
          go_roundw
          case rel =>
            refine ⟨5, by omega, by go_num, Below.allocW HN.out _, Lib.hid fun j hj => ?_⟩
            rcases Nat.lt_succ_iff_lt_or_eq.1 hj with h | rfl
            · exact HF.out j h
            · exact HTC.out
          case measure => simp [intOf]
    · obtain rfl : k = 5 := by omega
      have ho := takeOk_all (HF.out)
      go_wp2
      refine bodyPost_ret (v := .tuple #[.agg #[.bool true, .int .u32 dseq, .int .u32 value, .int .i64 dround], .bool true]) (by simp [results, Tryd.results12, go_sem, e0, e1, e2, e3]) rfl ⟨?_, ?_⟩
      · simp only [takeS, ho, if_true]
      · have hb9 : Below w.heap.size w wr := Below.then_ HBB.out HN.out
        have hb8 := hb9.size
        repeat (first | (with_reducible exact hb9) | (with_reducible refine Below.allocW ?_ _) | (with_reducible refine Below.setCell ?_ (by simp; omega) _))
end Go.Proofs.YtmpkpikamogpdaaDoor.K
