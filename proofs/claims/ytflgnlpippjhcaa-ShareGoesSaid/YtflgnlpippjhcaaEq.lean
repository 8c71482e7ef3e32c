/- '==' and '!=' of aggregates by law. -/
import Derived.Test.YtflgnlpippjhcaaBq
import Derived.Laws.StructEq
set_option linter.unusedVariables false
namespace Go.Proofs.Ytflgnlpippjhcaa
open Go.RowKit Go.Sort

section
variable {P : Program} {ops : Array Oper} {rest : List Oper} {o : Oper} {a : Act} {w W : World}
theorem wpList_eql {Q : Exit → Act → World → Prop} (hw : Region.wanted o (yielded ops a.tmps) = true) (ty : TypeId) (x y : Operand) (r : TypeId) (ho : o.op = .binOp .eql ty x y r) {xs ys : Array Value} (hx : a.eval x = .agg xs) (hy : a.eval y = .agg ys)
    (hm : P.eqGuardType P.depth ty = false) (b : Bool) (he : (Op.equalIn 10000 ty (.agg xs) (.agg ys)).run P w = .ok b w) (h : wpList P ops Q rest (a.put o.dst (.bool b)) w) : wpList P ops Q (o :: rest) a w :=
  wpList_wanted hw fun _ hK => by
    unfold Oper.wp execOp
    simp only [ho, hx, hy, Sem.run_bind, run_eqGuard_agg w .eql ty x y xs ys hm, Result.andThen_ok, run_eql_struct, he, Sem.run_pure]
    exact hK _ _ h
theorem wpList_neq {Q : Exit → Act → World → Prop} (hw : Region.wanted o (yielded ops a.tmps) = true) (ty : TypeId) (x y : Operand) (r : TypeId) (ho : o.op = .binOp .neq ty x y r) {xs ys : Array Value} (hx : a.eval x = .agg xs) (hy : a.eval y = .agg ys)
    (hm : P.eqGuardType P.depth ty = false) (b : Bool) (he : (Op.equalIn 10000 ty (.agg xs) (.agg ys)).run P w = .ok b w) (h : wpList P ops Q rest (a.put o.dst (.bool (!b))) w) : wpList P ops Q (o :: rest) a w :=
  wpList_wanted hw fun _ hK => by
    unfold Oper.wp execOp
    simp only [ho, hx, hy, Sem.run_bind, run_eqGuard_agg w .neq ty x y xs ys hm, Result.andThen_ok, run_neq_struct, he, Sem.run_pure]
    exact hK _ _ h
theorem wpQuiet_eql {Q : Act → Prop} (hw : Region.wanted o (yielded ops a.tmps) = true) (ty : TypeId) (x y : Operand) (r : TypeId) (ho : o.op = .binOp .eql ty x y r) {xs ys : Array Value} (hx : a.eval x = .agg xs) (hy : a.eval y = .agg ys)
    (hm : P.eqGuardType P.depth ty = false) (b : Bool) (he : ∀ w, (Op.equalIn 10000 ty (.agg xs) (.agg ys)).run P w = .ok b w) (h : wpQuiet P ops (laidOn W) Q rest (a.put o.dst (.bool b))) : wpQuiet P ops (laidOn W) Q (o :: rest) a :=
  wpQuiet_step fun K hK => by
    rw [if_pos hw]
    refine ⟨_, fun w hw => ?_, hK _ h⟩
    obtain ⟨p, rfl⟩ := hw
    unfold Oper.quietAt execOp
    simp only [ho, hx, hy, Sem.run_bind, run_eqGuard_agg _ .eql ty x y xs ys hm, Result.andThen_ok, run_eql_struct, he, Sem.run_pure]
    exact ⟨rfl, rfl⟩
theorem wpQuiet_neq {Q : Act → Prop} (hw : Region.wanted o (yielded ops a.tmps) = true) (ty : TypeId) (x y : Operand) (r : TypeId) (ho : o.op = .binOp .neq ty x y r) {xs ys : Array Value} (hx : a.eval x = .agg xs) (hy : a.eval y = .agg ys)
    (hm : P.eqGuardType P.depth ty = false) (b : Bool) (he : ∀ w, (Op.equalIn 10000 ty (.agg xs) (.agg ys)).run P w = .ok b w) (h : wpQuiet P ops (laidOn W) Q rest (a.put o.dst (.bool (!b)))) : wpQuiet P ops (laidOn W) Q (o :: rest) a :=
  wpQuiet_step fun K hK => by
    rw [if_pos hw]
    refine ⟨_, fun w hw => ?_, hK _ h⟩
    obtain ⟨p, rfl⟩ := hw
    unfold Oper.quietAt execOp
    simp only [ho, hx, hy, Sem.run_bind, run_eqGuard_agg _ .neq ty x y xs ys hm, Result.andThen_ok, run_neq_struct, he, Sem.run_pure]
    exact ⟨rfl, rfl⟩
end
end Go.Proofs.Ytflgnlpippjhcaa
