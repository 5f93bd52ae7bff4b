/- Without a net: clocks.Of, Age, Ahead; a clock that is not there. sennitlaw06.ClocksVoid answers true. -/
import Derived.Test.YtmpkpikamogpdaaDoorClk6
namespace Go.Proofs.YtmpkpikamogpdaaDoor.K
open Go.RowKit

set_option maxHeartbeats 1000000 in
theorem of_bare (v : Value) (age : Int) (w : World) (h : BareAt w v) :
    Calls Tryd.prog 25 #[v, .int .i64 age] w fun e w' => e = .returned (.tuple #[.agg #[.int .i64 0, .int .i64 0, .int .i64 0], .int .i64 2]) ∧ Below w.heap.size w w' := by
  have HR := Lib.hid (round_bare v _ (h.below (ba w (.cells #[.int .i64 0, .int .i64 0, .int .i64 0] 64))))
  clear h
  go_enter Tryd.func25, Tryd.ntmps25
  go_wp2_with (go_at_call 52; refine (HR.out).mono ?_; rintro e w1 ⟨rfl, rfl⟩)
  refine bodyPost_ret (v := .tuple #[.agg #[.int .i64 0, .int .i64 0, .int .i64 0], .int .i64 2]) (by simp [results, Tryd.results25, go_sem]) rfl ⟨rfl, ?_⟩
  repeat (first | (with_reducible exact ba _ _) | (with_reducible refine Below.setCell ?_ (by simp) _))

set_option maxHeartbeats 1000000 in
theorem age_bare (v : Value) (r s p : Int) (w : World) (h : BareAt w v) :
    Calls Tryd.prog 27 #[v, .agg #[.int .i64 r, .int .i64 s, .int .i64 p]] w fun e w' => e = .returned (.tuple #[.int .i64 0, .int .i64 2]) ∧ Below w.heap.size w w' := by
  have HR := Lib.hid (round_bare v _ (h.below (ba w (.cells #[.int .i64 r, .int .i64 s, .int .i64 p] 64))))
  clear h
  go_enter Tryd.func27, Tryd.ntmps27
  go_wp2_with (go_at_call 52; refine (HR.out).mono ?_; rintro e w1 ⟨rfl, rfl⟩)
  go_ret2
  exact ⟨rfl, ba _ _⟩

set_option maxHeartbeats 1000000 in
theorem ahead_bare (v : Value) (r s p : Int) (w : World) (h : BareAt w v) :
    Calls Tryd.prog 30 #[v, .agg #[.int .i64 r, .int .i64 s, .int .i64 p]] w fun e w' => e = .returned (.int .i64 (-1)) ∧ Below w.heap.size w w' := by
  have HR := Lib.hid (age_bare v r s p _ (h.below (ba w (.cells #[.int .i64 r, .int .i64 s, .int .i64 p] 64))))
  clear h
  go_enter Tryd.func30, Tryd.ntmps30
  go_wp2_with (go_at_call 27; refine (HR.out).mono ?_; rintro e w1 ⟨rfl, hb1⟩)
  go_ret
  exact ⟨rfl, Below.then_ (ba _ _) hb1⟩

/-- A clock that is not there, or that no call made. -/
def NoClk (w : World) (v : Value) : Prop := v = .pointer none ∨ ∃ k, v = .pointer (some ⟨k, 0, none⟩) ∧ Blk w k 93 #[.pointer none, .int .i64 0, .int .i64 0, .int .i64 0, .int .i64 0]
theorem NoClk.below {w w' : World} {v : Value} (h : NoClk w v) (hb : Below w.heap.size w w') : NoClk w' v := by
  rcases h with h | ⟨p, h, k⟩
  · exact .inl h
  · exact .inr ⟨p, h, k.below hb⟩

set_option maxHeartbeats 2000000 in
theorem tick_void (v : Value) (age : Int) (sure : Bool) (w : World) (h : NoClk w v) :
    Calls Tryd.prog 33 #[v, .int .i64 age, .bool sure] w fun e w' => e = .returned (.tuple #[.agg #[.int .i64 0, .int .i64 0, .int .i64 0], .bool false]) ∧ Below w.heap.size w w' := by
  rcases h with rfl | ⟨k, rfl, hk⟩
  · go_enter Tryd.func33, Tryd.ntmps33
    go_wp2
    refine bodyPost_ret (v := .tuple #[.agg #[.int .i64 0, .int .i64 0, .int .i64 0], .bool false]) (by simp [results, Tryd.results33, go_sem]) rfl ⟨rfl, ?_⟩
    repeat (first | (with_reducible exact ba _ _) | (with_reducible refine Below.setCell ?_ (by simp) _))
  · have y0 := hk.cell 0
    simp at y0
    have hl := hk.lt
    clear hk
    go_enter Tryd.func33, Tryd.ntmps33
    go_wp2
    refine bodyPost_ret (v := .tuple #[.agg #[.int .i64 0, .int .i64 0, .int .i64 0], .bool false]) (by simp [results, Tryd.results33, go_sem]) rfl ⟨rfl, ?_⟩
    repeat (first | (with_reducible exact ba _ _) | (with_reducible refine Below.setCell ?_ (by simp) _))

set_option maxHeartbeats 2000000 in
theorem slot_void (v : Value) (w : World) (h : NoClk w v) :
    Calls Tryd.prog 34 #[v] w fun e w' => e = .returned (.tuple #[.int .i64 0, .bool false]) ∧ w = w' := by
  rcases h with rfl | ⟨k, rfl, hk⟩
  · go_enter Tryd.func34, Tryd.ntmps34
    go_wp2
    go_ret2
    exact ⟨rfl, rfl⟩
  · have y0 := hk.cell 0
    simp at y0
    have hl := hk.lt
    clear hk
    go_enter Tryd.func34, Tryd.ntmps34
    go_wp2
    go_ret2
    exact ⟨rfl, rfl⟩

set_option maxRecDepth 100000 in
set_option maxHeartbeats 8000000 in
theorem lawVoid_any (age r s p : Int) (w : World) (hs : Signs w) :
    Calls Tryd.prog 9 #[.int .i64 age, .agg #[.int .i64 r, .int .i64 s, .int .i64 p]] w fun e w' => e = .returned (.bool true) ∧ Below w.heap.size w w' := by
  have HS := Lib.hid hs
  clear hs
  go_enter Tryd.func9, Tryd.ntmps9
  go_wp2_with fail
  refine gen_wp (fun W => Hid (Blk W w.heap.size 64 #[.int .i64 r, .int .i64 s, .int .i64 p]) ∧ Hid (∀ k : Nat, k < 2 → ∃ v, W.cell? ⟨w.heap.size + 1 + 1, k, none⟩ = some v ∧ BareAt W v) ∧ Hid (w.heap.size + 1 + 1 < W.heap.size) ∧ Hid (Below w.heap.size w W)) ⟨Lib.hid (((Blk.new_ w _ _ rfl).alloc _).alloc _), Lib.hid fun k hk => ?_, Lib.hid (by simp), Lib.hid (Below.allocW (Below.allocW (ba _ _) _) _)⟩ ?_
  · have hbk := (Blk.new_ (w.alloc (.cells #[.int .i64 r, .int .i64 s, .int .i64 p] 64)) 89 #[.int .i64 0, .slice none 0 0, .slice none 0 0, .int .i64 0, .slice none 0 0, .slice none 0 0, .int .i64 0, .int .i64 0, .int .i64 0, .slice none 0 0] (g := w.heap.size + 1) (by simp))
    have hbl := (Blk.new_ ((w.alloc (.cells #[.int .i64 r, .int .i64 s, .int .i64 p] 64)).alloc (.cells #[.int .i64 0, .slice none 0 0, .slice none 0 0, .int .i64 0, .slice none 0 0, .slice none 0 0, .int .i64 0, .int .i64 0, .int .i64 0, .slice none 0 0] 89)) 24 #[.pointer none, .pointer (some ⟨w.heap.size + 1, 0, none⟩)] (g := w.heap.size + 1 + 1) (by simp))
    match k, hk with
    | 0, _ => exact ⟨.pointer none, hbl.cell 0, .inl rfl⟩
    | 1, _ => exact ⟨.pointer (some ⟨w.heap.size + 1, 0, none⟩), hbl.cell 1, .inr ⟨_, rfl, hbk.alloc _⟩⟩
  obtain ⟨B, eB⟩ : ∃ B, w.heap.size = B := ⟨_, rfl⟩
  rw [eB]
  rintro W ⟨KT, HC, HZ, HW⟩
  have HW2 : Hid (Below w.heap.size w W) := Lib.hid (by rw [eB]; exact HW.out)
  have hz := HZ.out
  go_loopw [7, 8, 9, 10, 11] (fun v _ _ _ _ wr => ∃ k : Nat, k ≤ 2 ∧ v = .int .i64 k ∧ Hid (Below W.heap.size W wr)) (fun v _ _ _ _ _ => 2 - (intOf v).toNat)
  case atStart => exact ⟨0, by omega, rfl, Lib.hid (Below.refl _ _)⟩
  case round =>
    obtain ⟨k, hk, rfl, HN⟩ := hrel
    have hzr : W.heap.size ≤ wr.heap.size := HN.out.size
    by_cases hlt : k < 2
    · have hlt' : (k : Int) < 2 := by omega
      have hk0 : (0 : Int) ≤ (k : Int) := by omega
      obtain ⟨v, hv, hbare⟩ := HC.out k hlt
      have hvr := Below.keeps HN.out hv
      obtain ⟨y0, y1, y2⟩ := box3 (KT.out.below HN.out)
      have BA : Hid (∀ V, Below wr.heap.size wr V → BareAt V v) := Lib.hid fun V hb => (hbare.below HN.out).below hb
      clear hv hbare
      go_wp2_with fail
      go_at_call 25
      refine (of_bare v age _ (BA.out _ (Below.refl _ _))).mono ?_
      rintro e w1 ⟨rfl, hb1⟩
      have HB1 := Lib.hid hb1
      clear hb1
      go_wp2_with fail
      refine gen_wp (fun V => Hid (Blk V w1.heap.size 64 #[.int .i64 0, .int .i64 0, .int .i64 0]) ∧ Hid (Below wr.heap.size wr V)) ⟨Lib.hid (Blk.new_ w1 _ _ rfl), Lib.hid (Below.allocW HB1.out _)⟩ ?_
      rintro V ⟨KO, HV⟩
      have T2 : ∀ x : Grow V, (x.w.cell? ⟨B, 0, none⟩ = some (.int .i64 r) ∧ x.w.cell? ⟨B, 1, none⟩ = some (.int .i64 s) ∧ x.w.cell? ⟨B, 2, none⟩ = some (.int .i64 p)) ∧ x.w.cell? ⟨B + 1 + 1, k, none⟩ = some v :=
        fun x => ⟨⟨x.cell (Below.keeps HV.out y0), x.cell (Below.keeps HV.out y1), x.cell (Below.keeps HV.out y2)⟩, x.cell (Below.keeps HV.out hvr)⟩
      refine wp_region_grow (by kernel_rfl) (by kernel_rfl) ?_
      repeat (go_big_quiet_step ((go_at_call 27; exact Grow.call _ (age_bare v r s p _ (BA.out _ (by exact HV.out.trans (Below.mono (Grow.h _) HV.out.size)))))))
      refine wpQuiet_nil ?_
      rintro w3 hx3
      have hb3 := grow_of hx3
      clear hx3 T2
      have HV3 := Lib.hid (Below.then_ HV.out hb3)
      have KO3 := Lib.hid (KO.out.below hb3)
      obtain ⟨x0, x1, x2⟩ := box3 KO3.out
      have T3 : ∀ x : Grow w3, (x.w.cell? ⟨B, 0, none⟩ = some (.int .i64 r) ∧ x.w.cell? ⟨B, 1, none⟩ = some (.int .i64 s) ∧ x.w.cell? ⟨B, 2, none⟩ = some (.int .i64 p)) ∧ x.w.cell? ⟨B + 1 + 1, k, none⟩ = some v ∧ (x.w.cell? ⟨w1.heap.size, 0, none⟩ = some (.int .i64 0) ∧ x.w.cell? ⟨w1.heap.size, 1, none⟩ = some (.int .i64 0) ∧ x.w.cell? ⟨w1.heap.size, 2, none⟩ = some (.int .i64 0)) :=
        fun x => ⟨⟨x.cell (Below.keeps HV3.out y0), x.cell (Below.keeps HV3.out y1), x.cell (Below.keeps HV3.out y2)⟩, x.cell (Below.keeps HV3.out hvr), ⟨x.cell x0, x.cell x1, x.cell x2⟩⟩
      clear hb3 x0 x1 x2
      go_wp2_with fail
      refine wp_region_grow (by kernel_rfl) (by kernel_rfl) ?_
      repeat (go_big_quiet_step ((first | (go_at_call 30; exact Grow.call _ (ahead_bare v r s p _ (BA.out _ (by exact HV3.out.trans (Below.mono (Grow.h _) HV3.out.size))))) | (go_at_call 32; exact Grow.same _ (clkNew_bare v _ (BA.out _ (by exact HV3.out.trans (Below.mono (Grow.h _) HV3.out.size))))))))
      refine wpQuiet_nil ?_
      rintro w4 hx4
      have hb4 := grow_of hx4
      clear hx4 T3
      go_wp2_with fail
      go_roundw
      case rel => exact ⟨k + 1, by omega, by go_num, Lib.hid (Below.then_ HN.out (Below.then_ HV3.out hb4))⟩
      case measure => simp [intOf]; omega
    · obtain rfl : k = 2 := by omega
      clear HC HZ KT hz hzr
      rw [show ((2 : Nat) : Int) = 2 from rfl]
      go_wp2_with fail
      refine gen_wp (fun V => Hid (∀ k : Nat, k < 2 → ∃ v, V.cell? ⟨wr.heap.size + 1, k, none⟩ = some v ∧ NoClk V v) ∧ Hid (wr.heap.size + 1 < V.heap.size) ∧ Hid (Below W.heap.size W V)) ⟨Lib.hid fun k hk => ?_, Lib.hid (by simp), Lib.hid ((HN.out.alloc HN.out.size _).alloc (by have := HN.out.size; simp; omega) _)⟩ ?_
      · have hbk := (Blk.new_ wr 93 #[.pointer none, .int .i64 0, .int .i64 0, .int .i64 0, .int .i64 0] rfl)
        have hbl := (Blk.new_ (wr.alloc (.cells #[.pointer none, .int .i64 0, .int .i64 0, .int .i64 0, .int .i64 0] 93)) 80 #[.pointer none, .pointer (some ⟨wr.heap.size, 0, none⟩)] (g := wr.heap.size + 1) (by simp))
        match k, hk with
        | 0, _ => exact ⟨.pointer none, hbl.cell 0, .inl rfl⟩
        | 1, _ => exact ⟨.pointer (some ⟨wr.heap.size, 0, none⟩), hbl.cell 1, .inr ⟨_, rfl, hbk.alloc _⟩⟩
      obtain ⟨C, eC⟩ : ∃ C, wr.heap.size = C := ⟨_, rfl⟩
      rw [eC]
      rintro V ⟨HC, HZ, HV⟩
      have hz := HZ.out
      go_loopw [14, 15, 16, 17, 18] (fun v _ _ _ _ wx => ∃ k : Nat, k ≤ 2 ∧ v = .int .i64 k ∧ Hid (Below V.heap.size V wx)) (fun v _ _ _ _ _ => 2 - (intOf v).toNat)
      case atStart => exact ⟨0, by omega, rfl, Lib.hid (Below.refl _ _)⟩
      case round =>
        obtain ⟨j, hj, rfl, HX⟩ := hrel
        have hzx : V.heap.size ≤ wr.heap.size := HX.out.size
        by_cases hlt : j < 2
        · have hlt' : (j : Int) < 2 := by omega
          have hj0 : (0 : Int) ≤ (j : Int) := by omega
          obtain ⟨v, hv, hno⟩ := HC.out j hlt
          have hvr := Below.keeps HX.out hv
          have BA : Hid (∀ U, Below wr.heap.size wr U → NoClk U v) := Lib.hid fun U hb => (hno.below HX.out).below hb
          clear hv hno
          go_wp2_with fail
          go_at_call 33
          refine (tick_void v age true _ (BA.out _ (Below.refl _ _))).mono ?_
          rintro e w1 ⟨rfl, hb1⟩
          have hv1 := Below.keeps hb1 hvr
          have hc1 := cell_lt hv1
          have HB1 := Lib.hid hb1
          have hs1 : wr.heap.size ≤ w1.heap.size := hb1.size
          clear hb1 hvr
          go_wp2_with fail
          go_at_call 34
          refine (slot_void v _ (BA.out _ (Below.allocW HB1.out _))).mono ?_
          rintro e w2 ⟨rfl, rfl⟩
          go_wp2_with fail
          go_roundw
          case rel => exact ⟨j + 1, by omega, by go_num, Lib.hid (Below.then_ HX.out (Below.allocW HB1.out _))⟩
          case measure => simp [intOf]; omega
        · obtain rfl : j = 2 := by omega
          go_wp2_with fail
          go_at_call 24
          refine (lives6_any _ (HS.out.below (Below.then_ HW2.out (Below.then_ HV.out HX.out)))).mono ?_
          rintro e w3 ⟨rfl, hb3⟩
          go_wp2_with fail
          go_ret
          exact ⟨rfl, Below.then_ (Below.then_ HW2.out (Below.then_ HV.out HX.out)) hb3⟩
end Go.Proofs.YtmpkpikamogpdaaDoor.K
