/- Rules of a calculus of walks: no condition of its own. -/
import Derived.Test.YtboaclfnjdhcpaaDoorCore2
import Derived.KernelRfl
namespace Aw
open Go
attribute [go_sem] Aw.get Aw.set Aw.del constAV TK.isAgg ev strip op0 op1 op2 aarith ashift astr isShift abin acut Pick apick aload anil aun afaddr afield aixa aindex aextract amkif abound aslice arowslice alen acvt abinT topOp nilEq isLit nilOp evs amkfunc aassert aminmax optOp pureOp acells isOne okCell evE allocB ealloc ebox estore estoreR estoreA frz frzs rowIds clo clos rep emake parts partIds closeParts putAll partsOk ebuildSl asrc isSrcK eappend econv fillA ebuild effOp andThen testOf unblock dstOk St.put gOf gAt mapO shr rids argEnv ares aresult closeR finRet finPanic fin evEs acall stepOp runOps
attribute [go_sem] Nat.zero_add Nat.add_zero Nat.le_refl List.foldl_cons List.foldl_nil List.set_cons_zero List.set_cons_succ List.flatMap_cons List.flatMap_nil List.append_nil List.cons_append Option.some.injEq eq_self Bool.false_eq_true decide_true decide_false true_and and_true and_self forall_const true_imp_iff imp_self implies_true beq_true beq_false Bool.true_and Bool.and_true Bool.not_true Bool.not_false List.map_cons List.map_nil List.length_cons List.length_nil List.getElem?_cons_zero List.getElem?_cons_succ Option.map_some Int.toNat_natCast Int.toNat_zero List.drop_zero List.nil_append List.take_length
end Aw
