/- (*models.Model).Slot and Next without a model, or a model that no call made; sennitlaw28.same of nothing. -/
import Derived.Test.YtpcabnnihdjhpaaDoorSaid4
import Derived.Test.YtpcabnnihdjhpaaDoorRow
import Derived.Deep.DeepCutAuto
import Derived.Test.YtpcabnnihdjhpaaDoorVeq
namespace Go.Proofs.YtpcabnnihdjhpaaDoor.K
open Go.RowKit

def seenZ : Array Value := #[.int .i64 0, .bool false, .int .i64 0, .int .u8 0, .int .u8 0, .int .u32 0, .int .u32 0,
  .bool false, .bool false, .bool false, .bool false, .bool false, .bool false, .bool false, .bool false,
  .int .u8 0, .int .u8 0, .int .u8 0, .int .u8 0, .int .u8 0, .int .u8 0, .int .u8 0, .int .u8 0, .int .u8 0, .int .u8 0, .int .u8 0, .int .u8 0, .int .u8 0, .int .u8 0, .int .u8 0, .int .u8 0,
  .int .u16 0, .int .u16 0, .int .u16 0, .int .u16 0, .int .u16 0, .int .u16 0, .int .u16 0, .int .u16 0,
  .bool false, .bool false, .bool false, .bool false, .bool false, .bool false, .bool false, .bool false, .int .i8 0, .int .u8 0, .slice none 0 0]

/-- No model, or one that no call made. -/
def ModelVoid (w : World) (v : Value) : Prop := v = .pointer none ∨ ∃ b, v = .pointer (some ⟨b, 0, none⟩) ∧ w.cell? ⟨b, 0, none⟩ = some (.pointer none)

set_option maxRecDepth 100000 in
set_option maxHeartbeats 4000000 in
theorem next_void (v : Value) (w : World) (h : ModelVoid w v) : Calls Tryd.prog 6 #[v] w fun e w' => e = .returned (.int .i64 (-1)) ∧ w = w' := by
  rcases h with rfl | ⟨b, rfl, hc⟩
  · go_enter Tryd.func6, Tryd.ntmps6
    go_wp2
    go_ret
    exact ⟨rfl, rfl⟩
  · go_enter Tryd.func6, Tryd.ntmps6
    go_wp2
    go_ret
    exact ⟨rfl, rfl⟩

set_option maxRecDepth 100000 in
set_option maxHeartbeats 4000000 in
theorem slot_void (m : Value) (x : Sd) (w : World) (hm : ModelVoid w m) : Calls Tryd.prog 4 #[m, x.V] w fun e w' => e = .returned (.tuple #[.agg seenZ, .int .i64 2]) ∧ Below w.heap.size w w' := by
  obtain ⟨is, at_, k, s, q, v⟩ := x
  simp only [Sd.V, Sd.cells, seenZ]
  rcases hm with rfl | ⟨b, rfl, hc⟩
  · go_enter Tryd.func4, Tryd.ntmps4
    go_wp2_with (refine wpList_store_blk rfl 44 (.tmp 4) (.tmp 24) rfl (w.heap.size + 1 + 1) 44 _ _ (Blk.new_ _ _ _ (by simp)) rfl rfl (by kernel_rfl) (by kernel_rfl) (by kernel_rfl) ?_)
    refine bodyPost_ret (results_row_tmp Tryd.results4 _ (w.heap.size + 1 + 1) 44 _ rfl ((Blk.new_ _ _ _ (by simp)).setRow _) _ Tryd.underlying44 rfl (by kernel_rfl)) rfl ⟨rfl, ?_⟩
    exact below_setRowW (Below.allocW (Below.allocW (Below.allocW (Below.refl _ _) _) _) _) (by omega) _
  · have hbl := cell_lt hc
    have hbl1 : b < w.heap.size + 1 := by omega
    have hbl2 : b < w.heap.size + 1 + 1 := by omega
    go_enter Tryd.func4, Tryd.ntmps4
    go_wp2_with (refine wpList_store_blk rfl 44 (.tmp 4) (.tmp 24) rfl (w.heap.size + 1 + 1) 44 _ _ (Blk.new_ _ _ _ (by simp)) rfl rfl (by kernel_rfl) (by kernel_rfl) (by kernel_rfl) ?_)
    refine bodyPost_ret (results_row_tmp Tryd.results4 _ (w.heap.size + 1 + 1) 44 _ rfl ((Blk.new_ _ _ _ (by simp)).setRow _) _ Tryd.underlying44 rfl (by kernel_rfl)) rfl ⟨rfl, ?_⟩
    exact below_setRowW (Below.allocW (Below.allocW (Below.allocW (Below.refl _ _) _) _) _) (by omega) _

set_option maxRecDepth 100000 in
set_option maxHeartbeats 4000000 in
theorem same_void (w : World) : Calls Tryd.prog 5 #[.agg seenZ, .agg seenZ] w fun e w' => e = .returned (.bool true) ∧ Below w.heap.size w w' := by
  obtain ⟨X, hX⟩ : ∃ X, seenZ = X := ⟨_, rfl⟩
  have c0 : X[0]? = some (.int .i64 0) := by rw [← hX]; rfl
  have c49 : X[49]? = some (.slice none 0 0) := by rw [← hX]; rfl
  have hsz : X.size = 50 := by rw [← hX]; rfl
  have d1 : X[1]? = some (.bool false) ∧ X[2]? = some (.int .i64 0) ∧ X[3]? = some (.int .u8 0) ∧ X[4]? = some (.int .u8 0) ∧ X[5]? = some (.int .u32 0) ∧ X[6]? = some (.int .u32 0) := by rw [← hX]; exact ⟨rfl, rfl, rfl, rfl, rfl, rfl⟩
  have d2 : (X.extract 7 49).toList = zeroV.toList := by rw [← hX]; rfl
  have HN := Lib.hid fun W => view_neq zeroV_ok zeroV_ok W
  rw [hX]
  clear hX
  rw [eqA_self] at HN
  obtain ⟨Z, hZ⟩ : ∃ Z, zeroV = Z := ⟨_, rfl⟩
  have hZs : Z.toList.length = 42 := by rw [← hZ]; rfl
  rw [hZ] at HN d2
  have HD1 := Lib.hid d1
  have HD2 := Lib.hid d2
  have HZ := Lib.hid hZs
  clear hZ d1 d2 hZs
  go_enter Tryd.func5, Tryd.ntmps5
  go_upto_region 1 with fail
  refine gen_wp (fun U => Hid (Blk U w.heap.size 44 X) ∧ Hid (Blk U (w.heap.size + 1) 49 X) ∧ Hid (Below w.heap.size w U))
    ⟨Lib.hid ((Blk.new_ w _ _ rfl).alloc _), Lib.hid (Blk.new_ _ _ _ (by simp)), Lib.hid (Below.allocW (Below.allocW (Below.refl _ _) _) _)⟩ ?_
  rintro U ⟨K1, K2, HB⟩
  have k1 := K1.out.cell 0
  have k2 := K2.out.cell 0
  have k3 := K1.out.cell 49
  have k4 := K2.out.cell 49
  rw [c0] at k1 k2
  rw [c49] at k3 k4
  obtain ⟨x1, x2, x3, x4, x5, x6⟩ := HD1.out
  have q1 : ∀ b, Blk U b 44 X ∨ Blk U b 49 X → U.cell? ⟨b, 1, none⟩ = some (.bool false) ∧ U.cell? ⟨b, 2, none⟩ = some (.int .i64 0) ∧ U.cell? ⟨b, 3, none⟩ = some (.int .u8 0) ∧ U.cell? ⟨b, 4, none⟩ = some (.int .u8 0) ∧ U.cell? ⟨b, 5, none⟩ = some (.int .u32 0) ∧ U.cell? ⟨b, 6, none⟩ = some (.int .u32 0) := by
    rintro b (h | h) <;> exact ⟨(h.cell 1).trans x1, (h.cell 2).trans x2, (h.cell 3).trans x3, (h.cell 4).trans x4, (h.cell 5).trans x5, (h.cell 6).trans x6⟩
  obtain ⟨p1, p2, p3, p4, p5, p6⟩ := q1 _ (.inl K1.out)
  obtain ⟨o1, o2, o3, o4, o5, o6⟩ := q1 _ (.inr K2.out)
  clear x1 x2 x3 x4 x5 x6 q1
  have R3 := Lib.hid (World.rangeAt_of_block K1.out 7 42)
  have R4 := Lib.hid (World.rangeAt_of_block K2.out 7 42)
  rw [HD2.out] at R3 R4
  clear c0 c49
  have hne := HN.out
  go_wp2_with (first
    | (refine wpList_load_at rfl 36 (.tmp 19) rfl w.heap.size 7 rfl Z _ R3.out Tryd.underlying36 rfl (by rw [← Array.length_toList, HZ.out]; exact view_size) ?_)
    | (refine wpList_load_at rfl 36 (.tmp 21) rfl (w.heap.size + 1) 7 rfl Z _ R4.out Tryd.underlying36 rfl (by rw [← Array.length_toList, HZ.out]; exact view_size) ?_))
  refine wp_loop_rounds 1 ?_
  rw [rounds_succ]
  go_wp2
  go_ret
  exact ⟨rfl, HB.out⟩
end Go.Proofs.YtpcabnnihdjhpaaDoor.K
