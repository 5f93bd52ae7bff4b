/- Functions of package actuators: station, the five conditions, Take. -/
import Derived.Test.YtmpkpikamogpdaaDoorNet
namespace Go.Proofs.YtmpkpikamogpdaaDoor.K
open Go.RowKit

/-- A net, or none: which stations it has. -/
def NetV (w : World) (v : Value) (sts : List Stn) : Prop :=
  (v = .pointer none ∧ sts = []) ∨ ∃ p c, v = .pointer (some ⟨p, 0, none⟩) ∧ NetAt w p c ∧ c.stations = sts
theorem NetV.below {w w' : World} {v : Value} {sts : List Stn} (h : NetV w v sts) (hb : Below w.heap.size w w') : NetV w' v sts := by
  rcases h with h | ⟨p, c, h1, h2, h3⟩
  · exact .inl h
  · exact .inr ⟨p, c, h1, h2.below hb, h3⟩
theorem NetV.few {w : World} {v : Value} {sts : List Stn} (h : NetV w v sts) : sts.length ≤ 8 := by
  rcases h with ⟨_, rfl⟩ | ⟨p, c, _, h2, rfl⟩
  · simp
  · exact (bounds_of h2.1).st1

def GivenPost (sts : List Stn) (w : World) (e : Ending) (w' : World) : Prop :=
  ∃ (n : Int) (B1 : Option Addr) (n1 : Nat) (B2 : Option Addr) (n2 : Nat) (long : Int) (B3 : Option Addr) (n3 : Nat) (A : Option Addr) (miss good fresh : Int), e = .returned (.agg #[.int .i64 n, .slice B1 n1 n1, .slice B2 n2 n2, .int .i64 long, .slice B3 n3 n3, .slice A sts.length sts.length, .int .i64 miss, .int .i64 good, .int .i64 fresh]) ∧ RdV w' A (stnCells sts) ∧ Below w.heap.size w w'
theorem given_v (v : Value) (sts : List Stn) (w : World) (hs : Signs w) (h : NetV w v sts) :
    Calls Tryd.prog 57 #[v] w (GivenPost sts w) := by
  rcases h with ⟨rfl, rfl⟩ | ⟨p, c, rfl, h2, rfl⟩
  · refine (given_nil w).mono ?_
    rintro e w' ⟨rfl, hb⟩
    exact ⟨_, _, _, _, _, _, _, _, _, _, _, _, rfl, fun h => absurd rfl h, hb⟩
  · refine (given_any p c w hs h2).mono ?_
    rintro e w' ⟨A1, A2, A3, A4, rfl, _, _, _, h4, hb⟩
    exact ⟨_, _, _, _, _, _, _, _, _, _, _, _, rfl, h4, hb⟩

theorem field_stations (n : Int) (B1 : Option Addr) (n1 : Nat) (B2 : Option Addr) (n2 : Nat) (long : Int) (B3 : Option Addr) (n3 : Nat) (A : Option Addr) (n4 : Nat) (miss good fresh : Int) (w : World) :
    (Instr.field 44 (.agg #[.int .i64 n, .slice B1 n1 n1, .slice B2 n2 n2, .int .i64 long, .slice B3 n3 n3, .slice A n4 n4, .int .i64 miss, .int .i64 good, .int .i64 fresh]) 5).run Tryd.prog w = .ok (.slice A n4 n4) w := by kernel_rfl
def stnAt (sts : List Stn) (i : Int) : Option Stn := if i < 0 then none else sts[i.toNat]?
def stnVal : Option Stn → Value
  | none => .tuple #[.agg #[.int .i64 0, .int .u32 0, .int .i64 0], .bool false]
  | some s => .tuple #[.agg #[.int .i64 s.node, .int .u32 s.safe, .int .i64 s.hold], .bool true]

set_option maxRecDepth 100000 in
set_option maxHeartbeats 2000000 in
theorem station_any (v : Value) (sts : List Stn) (i : Int) (w : World) (hs : Signs w) (h : NetV w v sts) :
    Calls Tryd.prog 36 #[v, .int .i64 i] w fun e w' => e = .returned (stnVal (stnAt sts i)) ∧ Below w.heap.size w w' := by
  have HG := Lib.hid (given_v v sts (w.alloc (.cells #[.int .i64 0, .int .u32 0, .int .i64 0] 100)) (hs.below ((Below.refl _ _).alloc (Nat.le_refl _) _)) (h.below ((Below.refl _ _).alloc (Nat.le_refl _) _)))
  have hl := h.few
  have hfd := field_stations
  clear h hs
  by_cases h0 : i < 0
  · go_enter Tryd.func36, Tryd.ntmps36
    go_wp2_with (first | (go_at_call 57; refine (HG.out).mono ?_; rintro e wg ⟨gn, B1, n1, B2, n2, gl, B3, n3, A, gm, gg, gf, rfl, hr, hb⟩; have hk := (Blk.new_ w 100 #[.int .i64 0, .int .u32 0, .int .i64 0] rfl).below hb; have k0 := hk.cell 0; have k1 := hk.cell 1; have k2 := hk.cell 2; have f0 := hk.frozen 0; have f1 := hk.frozen 1; have f2 := hk.frozen 2; have hkl := hk.lt; simp at k0 k1 k2; have HB := Lib.hid hb; have HR := Lib.hid hr; clear hk hb hr))
    refine bodyPost_ret (v := .tuple #[.agg #[.int .i64 0, .int .u32 0, .int .i64 0], .bool false]) (by simp [results, Tryd.results36, go_sem, k0, k1, k2]) rfl ⟨?_, ?_⟩
    · rw [stnAt, if_pos h0]; rfl
    · have hb0 : Below w.heap.size w wg := Below.then_ ((Below.refl _ w).alloc (Nat.le_refl _) _) HB.out
      repeat (first | (with_reducible exact hb0) | (with_reducible refine Below.setCell ?_ (by simp) _))
  · obtain ⟨k, rfl⟩ : ∃ k : Nat, i = k := ⟨i.toNat, by omega⟩
    by_cases hk : k < sts.length
    · have hk' : (k : Int) < (sts.length : Int) := by omega
      go_enter Tryd.func36, Tryd.ntmps36
      go_wp2_with (first | (go_at_call 57; refine (HG.out).mono ?_; rintro e wg ⟨gn, B1, n1, B2, n2, gl, B3, n3, A, gm, gg, gf, rfl, hr, hb⟩; have hk := (Blk.new_ w 100 #[.int .i64 0, .int .u32 0, .int .i64 0] rfl).below hb; have k0 := hk.cell 0; have k1 := hk.cell 1; have k2 := hk.cell 2; have f0 := hk.frozen 0; have f1 := hk.frozen 1; have f2 := hk.frozen 2; have hkl := hk.lt; simp at k0 k1 k2; have HB := Lib.hid hb; obtain ⟨b, off, s, rfl, hsk, q0, q1, q2⟩ := hr.stn (by assumption); clear hk hb hr))
      refine bodyPost_ret (v := .tuple #[.agg #[.int .i64 s.node, .int .u32 s.safe, .int .i64 s.hold], .bool true]) (by simp [results, Tryd.results36, go_sem, k0, k1, k2]) rfl ⟨?_, ?_⟩
      · rw [stnAt, if_neg (by omega), Int.toNat_natCast, hsk]; rfl
      · have hb0 : Below w.heap.size w wg := Below.then_ ((Below.refl _ w).alloc (Nat.le_refl _) _) HB.out
        repeat (first | (with_reducible exact hb0) | (with_reducible refine Below.setCell ?_ (by simp) _))
    · have hk' : (sts.length : Int) ≤ (k : Int) := by omega
      go_enter Tryd.func36, Tryd.ntmps36
      go_wp2_with (first | (go_at_call 57; refine (HG.out).mono ?_; rintro e wg ⟨gn, B1, n1, B2, n2, gl, B3, n3, A, gm, gg, gf, rfl, hr, hb⟩; have hk := (Blk.new_ w 100 #[.int .i64 0, .int .u32 0, .int .i64 0] rfl).below hb; have k0 := hk.cell 0; have k1 := hk.cell 1; have k2 := hk.cell 2; have f0 := hk.frozen 0; have f1 := hk.frozen 1; have f2 := hk.frozen 2; have hkl := hk.lt; simp at k0 k1 k2; have HB := Lib.hid hb; have HR := Lib.hid hr; clear hk hb hr))
      refine bodyPost_ret (v := .tuple #[.agg #[.int .i64 0, .int .u32 0, .int .i64 0], .bool false]) (by simp [results, Tryd.results36, go_sem, k0, k1, k2]) rfl ⟨?_, ?_⟩
      · rw [stnAt, if_neg (by omega), Int.toNat_natCast, List.getElem?_eq_none (by omega)]; rfl
      · have hb0 : Below w.heap.size w wg := Below.then_ ((Below.refl _ w).alloc (Nat.le_refl _) _) HB.out
        repeat (first | (with_reducible exact hb0) | (with_reducible refine Below.setCell ?_ (by simp) _))
end Go.Proofs.YtmpkpikamogpdaaDoor.K
