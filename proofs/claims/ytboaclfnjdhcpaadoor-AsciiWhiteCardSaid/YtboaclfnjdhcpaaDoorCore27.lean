/- Rules of a calculus of walks: no condition of its own. -/
import Derived.Test.YtboaclfnjdhcpaaDoorCore26
namespace Aw
open Go
section
variable {P : Program} {ops : Array Oper} {K : St → Prop} {σ σ1 : St} {i : Nat} {o : Oper} {rest : List Nat} {ob ob' ob1 ob1' : Prop} {f : FuncId} {ys xs ys1 : List AV}
def stepX (P : Program) (ds : List (Option Tmp)) (σ : St) (o : Oper) : Option (Prop × AV) :=
 match o.guard with
 | none=>match pureOp P σ true o.op with
  | some r=>if dstOk σ.n o.dst = true then some r else none
  | none=>none
 | some p=>match gAt ds σ p.1 p.2 with
  | none=>none
  | some g=>match pureOp P σ g o.op with
   | some r=>if dstOk σ.n o.dst = true then some ((g = true → r.1),.opt g r.2) else none
   | none=>none
attribute [go_sem] stepX
variable {id : Nat} {y : Code} {Q : AX → St → Prop}
end
end Aw
