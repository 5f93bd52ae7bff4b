/- sennitlaw28.lives answers true. -/
import Derived.Test.YtpcabnnihdjhpaaDoorSaid3
namespace Go.Proofs.YtpcabnnihdjhpaaDoor.K
open Go.RowKit

def sdA : Sd := ⟨true, 3, 1, 0, 0, 1⟩
def sdB : Sd := ⟨true, 0, 1, 0, 0, 2⟩
def sdBare : Sd := ⟨true, 0, 1, 0, 0, 1⟩

set_option maxRecDepth 100000 in
set_option maxHeartbeats 4000000 in
theorem lives28_any (w : World) : Calls Tryd.prog 9 #[] w fun e w' => e = .returned (.bool true) ∧ Below w.heap.size w w' := by
  have C1 := Lib.hid fun (W : World) => choose_any sdA sdA (-1) false W
  have C2 := Lib.hid fun (W : World) => choose_any sdA sdB (-1) true W
  have C3 := Lib.hid fun (W : World) => choose_any sdA sdB 0 true W
  have C4 := Lib.hid fun (W : World) => choose_any sdA sdB 0 false W
  have C5 := Lib.hid fun (W : World) => choose_any sdA sdB 1 true W
  have C6 := Lib.hid fun (W : World) => choose_any Sd.zero sdA 1 true W
  rw [show chooseS sdA sdA (-1) false = sdBare from rfl] at C1
  rw [show chooseS sdA sdB (-1) true = Sd.zero from rfl] at C2
  rw [show chooseS sdA sdB 0 true = sdB from rfl] at C3
  rw [show chooseS sdA sdB 0 false = Sd.zero from rfl] at C4
  rw [show chooseS sdA sdB 1 true = sdBare from rfl] at C5
  rw [show chooseS Sd.zero sdA 1 true = Sd.zero from rfl] at C6
  simp only [Sd.V, Sd.cells, sdA, sdB, sdBare, Sd.zero] at C1 C2 C3 C4 C5 C6
  go_enter Tryd.func9, Tryd.ntmps9
  go_wp2_with fail
  refine gen_wp (fun U => Hid (Blk U w.heap.size 27 #[.bool true, .int .i64 3, .int .u8 1, .int .u8 0, .int .u32 0, .int .u32 1]) ∧ Hid (Blk U (w.heap.size + 1) 27 #[.bool true, .int .i64 0, .int .u8 1, .int .u8 0, .int .u32 0, .int .u32 2]) ∧ Hid (Blk U (w.heap.size + 1 + 1) 27 #[.bool false, .int .i64 0, .int .u8 0, .int .u8 0, .int .u32 0, .int .u32 0]) ∧ Hid (Blk U (w.heap.size + 1 + 1 + 1) 27 #[.bool true, .int .i64 0, .int .u8 1, .int .u8 0, .int .u32 0, .int .u32 1]) ∧ Hid (Below w.heap.size w U))
    ⟨Lib.hid ((((Blk.new_ w _ _ rfl).alloc _).alloc _).alloc _), Lib.hid (((Blk.new_ _ _ _ (by simp)).alloc _).alloc _), Lib.hid ((Blk.new_ _ _ _ (by simp)).alloc _), Lib.hid (Blk.new_ _ _ _ (by simp)), Lib.hid (Below.allocW (Below.allocW (Below.allocW (Below.allocW (Below.refl _ _) _) _) _) _)⟩ ?_
  rintro U ⟨KA, KB, KN, KR, HB⟩
  have T2 : ∀ z : Grow U, ((z.w.cell? ⟨w.heap.size, 0, none⟩ = some (.bool true) ∧ z.w.cell? ⟨w.heap.size, 1, none⟩ = some (.int .i64 3) ∧ z.w.cell? ⟨w.heap.size, 2, none⟩ = some (.int .u8 1) ∧ z.w.cell? ⟨w.heap.size, 3, none⟩ = some (.int .u8 0) ∧ z.w.cell? ⟨w.heap.size, 4, none⟩ = some (.int .u32 0) ∧ z.w.cell? ⟨w.heap.size, 5, none⟩ = some (.int .u32 1)) ∧
      (z.w.cell? ⟨w.heap.size + 1, 0, none⟩ = some (.bool true) ∧ z.w.cell? ⟨w.heap.size + 1, 1, none⟩ = some (.int .i64 0) ∧ z.w.cell? ⟨w.heap.size + 1, 2, none⟩ = some (.int .u8 1) ∧ z.w.cell? ⟨w.heap.size + 1, 3, none⟩ = some (.int .u8 0) ∧ z.w.cell? ⟨w.heap.size + 1, 4, none⟩ = some (.int .u32 0) ∧ z.w.cell? ⟨w.heap.size + 1, 5, none⟩ = some (.int .u32 2))) ∧
      ((z.w.cell? ⟨w.heap.size + 1 + 1, 0, none⟩ = some (.bool false) ∧ z.w.cell? ⟨w.heap.size + 1 + 1, 1, none⟩ = some (.int .i64 0) ∧ z.w.cell? ⟨w.heap.size + 1 + 1, 2, none⟩ = some (.int .u8 0) ∧ z.w.cell? ⟨w.heap.size + 1 + 1, 3, none⟩ = some (.int .u8 0) ∧ z.w.cell? ⟨w.heap.size + 1 + 1, 4, none⟩ = some (.int .u32 0) ∧ z.w.cell? ⟨w.heap.size + 1 + 1, 5, none⟩ = some (.int .u32 0)) ∧
      (z.w.cell? ⟨w.heap.size + 1 + 1 + 1, 0, none⟩ = some (.bool true) ∧ z.w.cell? ⟨w.heap.size + 1 + 1 + 1, 1, none⟩ = some (.int .i64 0) ∧ z.w.cell? ⟨w.heap.size + 1 + 1 + 1, 2, none⟩ = some (.int .u8 1) ∧ z.w.cell? ⟨w.heap.size + 1 + 1 + 1, 3, none⟩ = some (.int .u8 0) ∧ z.w.cell? ⟨w.heap.size + 1 + 1 + 1, 4, none⟩ = some (.int .u32 0) ∧ z.w.cell? ⟨w.heap.size + 1 + 1 + 1, 5, none⟩ = some (.int .u32 1))) :=
    fun z => ⟨⟨box6 (z.blk KA.out), box6 (z.blk KB.out)⟩, ⟨box6 (z.blk KN.out), box6 (z.blk KR.out)⟩⟩
  refine wp_region_grow (by kernel_rfl) (by kernel_rfl) ?_
  repeat (go_big_quiet_step ((go_at_call 7; exact Grow.call _ (by first | (with_reducible exact C1.out _) | (with_reducible exact C2.out _) | (with_reducible exact C3.out _) | (with_reducible exact C4.out _) | (with_reducible exact C5.out _) | (with_reducible exact C6.out _)))))
  refine wpQuiet_nil ?_
  rintro w3 hx3
  have hb3 := grow_of hx3
  clear hx3 T2
  go_wp2
  go_ret
  exact ⟨rfl, HB.out.trans (hb3.mono (by have := KR.out.lt; omega))⟩
end Go.Proofs.YtpcabnnihdjhpaaDoor.K
