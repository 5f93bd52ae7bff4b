/- Whole values in a region that draws its order: a load of a row; an operation on two values that answers the same in every world. No program stands here. -/
import Derived.Test.YtbmbaalidehoeaaDoorRow
namespace Go.Proofs.YtbmbaalidehoeaaDoor.K
open Go.RowKit
section
variable {P : Program} {ops : Array Oper} {rest : List Oper} {o : Oper} {a : Act} {C : World → Prop} {Q : Act → Prop}
theorem wpQuiet_load_at (hw : Region.wanted o (yielded ops a.tmps) = true) (ty : TypeId) (x : Operand) (ho : o.op = .load ty x) (b off : Nat) (hx : a.eval x = .pointer (some ⟨b, off, none⟩)) (cs : Array Value) (d : TypeDesc) (hc : ∀ w, C w → w.rangeAt b off cs.toList)
    (hu : P.underlying ty = some d) (hd : d.isRow = true) (hi : (P.info? ty).map (·.size) = some cs.size) (h : wpQuiet P ops C Q rest (a.put o.dst (.agg cs))) : wpQuiet P ops C Q (o :: rest) a :=
  BigFrame.wpQuiet_want hw fun K hK => ⟨.agg cs, fun w hC => by
    have hi' : (P.info? ty).map (·.size) = some cs.toList.length := by rw [Array.length_toList]; exact hi
    unfold Oper.quietAt execOp
    simp only [ho, hx, Instr.loadAt, Instr.sureAddr, Sem.run_bind, Sem.run_pure, Result.andThen_ok, run_loadVar_mid w b off ty cs.toList d (hc w hC) hu hd hi', Array.toArray_toList]
    exact ⟨rfl, rfl⟩, hK _ h⟩
theorem eqGuard_agg {P : Program} {t : TypeId} (h : P.eqGuardType P.depth t = false) (op : BinOp) (x y : Operand) (a b : Array Value) (w : World) : (eqGuard op t x y (.agg a) (.agg b)).run P w = .ok () w := by
  unfold eqGuard
  cases op <;> simp [go_sem, program, h, Sem.run, Result.andThen]
theorem wpQuiet_bin (hw : Region.wanted o (yielded ops a.tmps) = true) (op : BinOp) (t t' : TypeId) (x y : Operand) (ho : o.op = .binOp op t x y t') (v : Value) (u1 u2 : Array Value) (hx : a.eval x = .agg u1) (hy : a.eval y = .agg u2) (hg : P.eqGuardType P.depth t = false)
    (hr : ∀ w, (binOp op t (.agg u1) (.agg u2)).run P w = .ok v w)
    (h : wpQuiet P ops C Q rest (a.put o.dst v)) : wpQuiet P ops C Q (o :: rest) a :=
  BigFrame.wpQuiet_want hw fun K hK => ⟨v, fun w _ => by
    unfold Oper.quietAt execOp
    simp only [ho, hx, hy, Sem.run_bind, Sem.run_pure, Result.andThen_ok, eqGuard_agg hg op x y u1 u2 w, hr w]
    exact ⟨rfl, rfl⟩, hK _ h⟩
end
end Go.Proofs.YtbmbaalidehoeaaDoor.K
