/- sennitlaw26.lives: the chapter's example holds. -/
import Derived.Test.YtmpkpikamogpdaaDoorL26
namespace Go.Proofs.YtmpkpikamogpdaaDoor.K
open Go.RowKit

theorem box4 {w : World} {b : Nat} {v0 v1 v2 v3 : Value} {t : TypeId} (h : Blk w b t #[v0, v1, v2, v3]) :
    w.cell? ⟨b, 0, none⟩ = some v0 ∧ w.cell? ⟨b, 1, none⟩ = some v1 ∧ w.cell? ⟨b, 2, none⟩ = some v2 ∧ w.cell? ⟨b, 3, none⟩ = some v3 :=
  ⟨h.cell 0, h.cell 1, h.cell 2, h.cell 3⟩
theorem NetV.of {w : World} {p : Nat} {c : Cfg} (h : NetAt w p c) : NetV w (.pointer (some ⟨p, 0, none⟩)) c.stations := .inr ⟨p, c, rfl, h, rfl⟩

set_option maxRecDepth 100000 in
set_option maxHeartbeats 8000000 in
theorem lives_any (w : World) (hs : Signs w) :
    Calls Tryd.prog 15 #[] w fun e w' => e = .returned (.bool true) ∧ Below w.heap.size w w' := by
  have t1 : (takeS [⟨0, 9, 2⟩] 0 ⟨false, 0, 0, 0⟩ ⟨true, 0, 2, 0, 5, 7, 1, 1, 3⟩).V = .agg #[.bool true, .int .u32 5, .int .u32 7, .int .i64 3] := rfl
  have o1 : takeOk [⟨0, 9, 2⟩] 0 ⟨false, 0, 0, 0⟩ ⟨true, 0, 2, 0, 5, 7, 1, 1, 3⟩ = true := rfl
  have o2 : takeOk [⟨0, 9, 2⟩] 0 ⟨true, 5, 7, 3⟩ ⟨true, 0, 2, 0, 5, 7, 1, 1, 4⟩ = false := rfl
  have o3 : takeOk [⟨0, 9, 2⟩] 0 ⟨true, 5, 7, 3⟩ ⟨true, 0, 2, 0, 6, 7, 0, 1, 4⟩ = false := rfl
  have t2 : (takeS [⟨0, 9, 2⟩] 0 ⟨true, 5, 7, 3⟩ ⟨true, 0, 2, 0, 5, 7, 1, 1, 4⟩).V = .agg #[.bool true, .int .u32 5, .int .u32 7, .int .i64 3] := rfl
  have t3 : (takeS [⟨0, 9, 2⟩] 0 ⟨true, 5, 7, 3⟩ ⟨true, 0, 2, 0, 6, 7, 0, 1, 4⟩).V = .agg #[.bool true, .int .u32 5, .int .u32 7, .int .i64 3] := rfl
  have T2 := Lib.hid t2
  have T3 := Lib.hid t3
  have T1 := Lib.hid t1
  have O1 := Lib.hid o1
  have O2 := Lib.hid o2
  have O3 := Lib.hid o3
  have HS := Lib.hid hs
  clear t1 t2 t3 o1 o2 o3 hs
  go_enter Tryd.func15, Tryd.ntmps15
  go_wp2_with (first | (go_at_call 11; refine (net_any 9 2 _ (HS.out) (by decide)).mono ?_; rintro e wn ⟨p, rfl, hna, hbn⟩; have HNA := Lib.hid hna; have HBN := Lib.hid hbn; clear hna hbn) | (go_at_call 13; refine (order_any _ _ _ _ _ _).mono ?_; rintro e wo ⟨rfl, hbo⟩; have HBO := Lib.hid hbo; clear hbo) | (go_at_call 12; refine (take_any _ [⟨0, 9, 2⟩] 0 ⟨false, 0, 0, 0⟩ ⟨true, 0, 2, 0, 5, 7, 1, 1, 3⟩ _ (HS.out.below (Below.then_ HBN.out HBO.out)) ((NetV.of HNA.out).below HBO.out) (by decide)).mono ?_; rw [T1.out, O1.out]; rintro e wt ⟨rfl, hbt⟩; have HBT := Lib.hid hbt; clear hbt))
  refine gen_wp (fun W => Hid (Blk W wt.heap.size 27 #[.bool true, .int .u32 5, .int .u32 7, .int .i64 3]) ∧ Hid (NetV W (.pointer (some ⟨p, 0, none⟩)) [⟨0, 9, 2⟩]) ∧ Hid (Signs W) ∧ Hid (Below w.heap.size w W)) ⟨Lib.hid (Blk.new_ wt _ _ rfl), Lib.hid ((NetV.of HNA.out).below (Below.allocW (Below.then_ HBO.out HBT.out) _)), Lib.hid (HS.out.below (Below.allocW (Below.then_ HBN.out (Below.then_ HBO.out HBT.out)) _)), Lib.hid (Below.allocW (Below.then_ HBN.out (Below.then_ HBO.out HBT.out)) _)⟩ ?_
  obtain ⟨Q, eQ⟩ : ∃ Q, wt.heap.size = Q := ⟨_, rfl⟩
  rw [eQ]
  rintro W ⟨K0, HNV, HSW, HBW⟩
  clear HNA HBO HBT HBN
  have hqs := K0.out.lt
  go_cut [4, 5] (fun s4 s5 wx => s5 = .bool false ∧ Hid (Below W.heap.size W wx))
  case first =>
    go_region_held3 (fun V => V.cell? ⟨Q, 0, none⟩ = some (.bool true) ∧ V.cell? ⟨Q, 1, none⟩ = some (.int .u32 5) ∧ V.cell? ⟨Q, 2, none⟩ = some (.int .u32 7) ∧ V.cell? ⟨Q, 3, none⟩ = some (.int .i64 3)) ((refine box4 (Blk.below K0.out ?_); (repeat (first | (with_reducible exact Below.refl _ _) | (with_reducible assumption) | (with_reducible refine Below.drew ?_) | (with_reducible refine Below.allocW ?_ _) | (with_reducible refine Below.setCell ?_ (by first | (simp; done) | (simp; omega) | (dsimp only; omega)) _) | (with_reducible refine Below.then_ ?_ (by assumption)))))) (first | (go_at_call 13; refine (order_any _ _ _ _ _ _).mono ?_; rintro e wo ⟨rfl, hbo⟩; obtain ⟨bo1, bo2⟩ := bcell hbo; have so := hbo.size; try simp at so; try (have so2 : W.heap.size < wo.heap.size := by omega)) | (go_at_call 12; refine (take_any _ [⟨0, 9, 2⟩] 0 ⟨true, 5, 7, 3⟩ ⟨true, 0, 2, 0, 5, 7, 1, 1, 4⟩ _ (HSW.out.below ?_) (HNV.out.below ?_) (by decide)).mono ?_; (focus ((repeat (first | (with_reducible exact Below.refl _ _) | (with_reducible assumption) | (with_reducible refine Below.drew ?_) | (with_reducible refine Below.allocW ?_ _) | (with_reducible refine Below.setCell ?_ (by first | (simp; done) | (simp; omega) | (dsimp only; omega)) _) | (with_reducible refine Below.then_ ?_ (by assumption)))); done)); (focus ((repeat (first | (with_reducible exact Below.refl _ _) | (with_reducible assumption) | (with_reducible refine Below.drew ?_) | (with_reducible refine Below.allocW ?_ _) | (with_reducible refine Below.setCell ?_ (by first | (simp; done) | (simp; omega) | (dsimp only; omega)) _) | (with_reducible refine Below.then_ ?_ (by assumption)))); done)); rw [T2.out, O2.out]; rintro e wt2 ⟨rfl, hbt2⟩; obtain ⟨bt1, bt2⟩ := bcell hbt2; have st := hbt2.size; try simp at st; try (have st2 : wo.heap.size < wt2.heap.size := by omega); try (have st3 : W.heap.size < wt2.heap.size := by omega)))
    all_goals (go_wp2_with fail; go_meet; exact ⟨rfl, Lib.hid (by (repeat (first | (with_reducible exact Below.refl _ _) | (with_reducible assumption) | (with_reducible refine Below.drew ?_) | (with_reducible refine Below.allocW ?_ _) | (with_reducible refine Below.setCell ?_ (by first | (simp; done) | (simp; omega) | (dsimp only; omega)) _) | (with_reducible refine Below.then_ ?_ (by assumption)))))⟩)
  case rest =>
    obtain ⟨rfl, hb⟩ := hcut
    have K1 := Lib.hid (K0.out.below hb.out)
    have HN1 := Lib.hid (HNV.out.below hb.out)
    have HS1 := Lib.hid (HSW.out.below hb.out)
    have HB1 := Lib.hid (Below.then_ HBW.out hb.out)
    have hq1 := K1.out.lt
    clear hb K0 HNV HSW HBW hqs
    obtain ⟨W2, eW2⟩ : ∃ W2, wc = W2 := ⟨_, rfl⟩
    subst eW2
    go_wp2_with fail
    go_cut [6, 7] (fun s4 s5 wx => s5 = .bool false ∧ Hid (Below wc.heap.size wc wx))
    case first =>
      go_region_held3 (fun V => V.cell? ⟨Q, 0, none⟩ = some (.bool true) ∧ V.cell? ⟨Q, 1, none⟩ = some (.int .u32 5) ∧ V.cell? ⟨Q, 2, none⟩ = some (.int .u32 7) ∧ V.cell? ⟨Q, 3, none⟩ = some (.int .i64 3)) ((refine box4 (Blk.below K1.out ?_); (repeat (first | (with_reducible exact Below.refl _ _) | (with_reducible assumption) | (with_reducible refine Below.drew ?_) | (with_reducible refine Below.allocW ?_ _) | (with_reducible refine Below.setCell ?_ (by first | (simp; done) | (simp; omega) | (dsimp only; omega)) _) | (with_reducible refine Below.then_ ?_ (by assumption)))))) (first | (go_at_call 13; refine (order_any _ _ _ _ _ _).mono ?_; rintro e wo ⟨rfl, hbo⟩; obtain ⟨bo1, bo2⟩ := bcell hbo; have so := hbo.size; try simp at so; try (have so2 : wc.heap.size < wo.heap.size := by omega)) | (go_at_call 12; refine (take_any _ [⟨0, 9, 2⟩] 0 ⟨true, 5, 7, 3⟩ ⟨true, 0, 2, 0, 6, 7, 0, 1, 4⟩ _ (HS1.out.below ?_) (HN1.out.below ?_) (by decide)).mono ?_; (focus ((repeat (first | (with_reducible exact Below.refl _ _) | (with_reducible assumption) | (with_reducible refine Below.drew ?_) | (with_reducible refine Below.allocW ?_ _) | (with_reducible refine Below.setCell ?_ (by first | (simp; done) | (simp; omega) | (dsimp only; omega)) _) | (with_reducible refine Below.then_ ?_ (by assumption)))); done)); (focus ((repeat (first | (with_reducible exact Below.refl _ _) | (with_reducible assumption) | (with_reducible refine Below.drew ?_) | (with_reducible refine Below.allocW ?_ _) | (with_reducible refine Below.setCell ?_ (by first | (simp; done) | (simp; omega) | (dsimp only; omega)) _) | (with_reducible refine Below.then_ ?_ (by assumption)))); done)); rw [T3.out, O3.out]; rintro e wt2 ⟨rfl, hbt2⟩; obtain ⟨bt1, bt2⟩ := bcell hbt2; have st := hbt2.size; try simp at st; try (have st2 : wo.heap.size < wt2.heap.size := by omega); try (have st3 : wc.heap.size < wt2.heap.size := by omega)))
      all_goals (go_wp2_with fail; go_meet; exact ⟨rfl, Lib.hid (by (repeat (first | (with_reducible exact Below.refl _ _) | (with_reducible assumption) | (with_reducible refine Below.drew ?_) | (with_reducible refine Below.allocW ?_ _) | (with_reducible refine Below.setCell ?_ (by first | (simp; done) | (simp; omega) | (dsimp only; omega)) _) | (with_reducible refine Below.then_ ?_ (by assumption)))))⟩)
    case rest =>
      obtain ⟨rfl, hb⟩ := hcut
      have K2 := Lib.hid (K1.out.below hb.out)
      have HN2 := Lib.hid (HN1.out.below hb.out)
      have HS2 := Lib.hid (HS1.out.below hb.out)
      have HB2 := Lib.hid (Below.then_ HB1.out hb.out)
      have hq2 := K2.out.lt
      obtain ⟨q0, q1, q2, q3⟩ := box4 K2.out
      clear hb K1 HN1 HS1 HB1 hq1
      have HH9 : Hid (∀ x ∈ ([⟨0, 9, 2⟩] : List Stn), 1 ≤ x.hold ∧ x.hold ≤ 100) := Lib.hid (by intro x hx; simp at hx; subst hx; exact ⟨by decide, by decide⟩)
      have V3 := Lib.hid (show outE [⟨0, 9, 2⟩] 0 ⟨true, 5, 7, 3⟩ 3 = 7 from rfl)
      have V4 := Lib.hid (show outE [⟨0, 9, 2⟩] 0 ⟨true, 5, 7, 3⟩ 4 = 7 from rfl)
      have V5 := Lib.hid (show outE [⟨0, 9, 2⟩] 0 ⟨true, 5, 7, 3⟩ 5 = 9 from rfl)
      have V6 := Lib.hid (show outE [⟨0, 9, 2⟩] 0 ⟨false, 0, 0, 0⟩ 5 = 9 from rfl)
      go_wp2_with fail
      go_at_call 14
      refine (output_any _ [⟨0, 9, 2⟩] 0 ⟨true, 5, 7, 3⟩ 3 _ (HS2.out.below ?_) (HN2.out.below ?_) ⟨by decide, by decide⟩ ⟨by decide, by decide⟩ HH9.out).mono ?_
      · (repeat (first | (with_reducible exact Below.refl _ _) | (with_reducible assumption) | (with_reducible refine Below.drew ?_) | (with_reducible refine Below.allocW ?_ _) | (with_reducible refine Below.then_ ?_ (by assumption))))
      · (repeat (first | (with_reducible exact Below.refl _ _) | (with_reducible assumption) | (with_reducible refine Below.drew ?_) | (with_reducible refine Below.allocW ?_ _) | (with_reducible refine Below.then_ ?_ (by assumption))))
      rw [V3.out]
      rintro e wu3 ⟨rfl, hbu3⟩
      have KU3 := Lib.hid (K2.out.below hbu3)
      obtain ⟨q30, q31, q32, q33⟩ := box4 KU3.out
      go_wp2_with fail
      go_at_call 14
      refine (output_any _ [⟨0, 9, 2⟩] 0 ⟨true, 5, 7, 3⟩ 4 _ (HS2.out.below ?_) (HN2.out.below ?_) ⟨by decide, by decide⟩ ⟨by decide, by decide⟩ HH9.out).mono ?_
      · (repeat (first | (with_reducible exact Below.refl _ _) | (with_reducible assumption) | (with_reducible refine Below.drew ?_) | (with_reducible refine Below.allocW ?_ _) | (with_reducible refine Below.then_ ?_ (by assumption))))
      · (repeat (first | (with_reducible exact Below.refl _ _) | (with_reducible assumption) | (with_reducible refine Below.drew ?_) | (with_reducible refine Below.allocW ?_ _) | (with_reducible refine Below.then_ ?_ (by assumption))))
      rw [V4.out]
      rintro e wu4 ⟨rfl, hbu4⟩
      have KU4 := Lib.hid (KU3.out.below hbu4)
      obtain ⟨q40, q41, q42, q43⟩ := box4 KU4.out
      go_wp2_with fail
      go_at_call 14
      refine (output_any _ [⟨0, 9, 2⟩] 0 ⟨true, 5, 7, 3⟩ 5 _ (HS2.out.below ?_) (HN2.out.below ?_) ⟨by decide, by decide⟩ ⟨by decide, by decide⟩ HH9.out).mono ?_
      · (repeat (first | (with_reducible exact Below.refl _ _) | (with_reducible assumption) | (with_reducible refine Below.drew ?_) | (with_reducible refine Below.allocW ?_ _) | (with_reducible refine Below.then_ ?_ (by assumption))))
      · (repeat (first | (with_reducible exact Below.refl _ _) | (with_reducible assumption) | (with_reducible refine Below.drew ?_) | (with_reducible refine Below.allocW ?_ _) | (with_reducible refine Below.then_ ?_ (by assumption))))
      rw [V5.out]
      rintro e wu5 ⟨rfl, hbu5⟩
      have KU5 := Lib.hid (KU4.out.below hbu5)
      obtain ⟨q50, q51, q52, q53⟩ := box4 KU5.out
      go_wp2_with fail
      go_at_call 14
      refine (output_any _ [⟨0, 9, 2⟩] 0 ⟨false, 0, 0, 0⟩ 5 _ (HS2.out.below ?_) (HN2.out.below ?_) ⟨by decide, by decide⟩ ⟨by decide, by decide⟩ HH9.out).mono ?_
      · (repeat (first | (with_reducible exact Below.refl _ _) | (with_reducible assumption) | (with_reducible refine Below.drew ?_) | (with_reducible refine Below.allocW ?_ _) | (with_reducible refine Below.then_ ?_ (by assumption))))
      · (repeat (first | (with_reducible exact Below.refl _ _) | (with_reducible assumption) | (with_reducible refine Below.drew ?_) | (with_reducible refine Below.allocW ?_ _) | (with_reducible refine Below.then_ ?_ (by assumption))))
      rw [V6.out]
      rintro e wu6 ⟨rfl, hbu6⟩
      have KU6 := Lib.hid (KU5.out.below hbu6)
      obtain ⟨q60, q61, q62, q63⟩ := box4 KU6.out
      go_wp2_with fail
      go_ret
      refine ⟨rfl, Below.then_ HB2.out ?_⟩
      (repeat (first | (with_reducible exact Below.refl _ _) | (with_reducible assumption) | (with_reducible refine Below.drew ?_) | (with_reducible refine Below.allocW ?_ _) | (with_reducible refine Below.then_ ?_ (by assumption))))
end Go.Proofs.YtmpkpikamogpdaaDoor.K
