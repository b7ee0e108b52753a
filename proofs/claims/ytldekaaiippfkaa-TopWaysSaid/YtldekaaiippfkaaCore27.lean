/- Rules of a calculus of walks: no condition of its own. -/
import Derived.Test.YtldekaaiippfkaaCore26
namespace Aw
open Go
def finN (P : Program) (fn : Func) (R : AE → Prop) (x : AX) (σ : St) : Prop :=
 match x with
 | .normal => LeaveS P fn .ret σ R
 | .ret => LeaveS P fn .ret σ R
 | .panic _ => False
 | .exit _ => False
theorem PI.finN {P : Program} {fn : Func} {R : AE → Prop} : PI (finN P fn R) := fun _ _ _ _ _ _ _ _ _ h => h.elim
theorem FnP.introN {P : Program} {gl : List (Nat × AV)} {f : FuncId} {fn : Func} {c : Code} {xs : List AV} {R : AE → Prop} (hf : P.funcs[f]? = some fn) (hname : (fn.name == "runtime.NumGoroutine") = false)
  (hb : fn.body = some c) (hn : xs.length ≤ fn.ntmps) (h : AW P c ⟨fn.ntmps, argEnv 0 xs, [], 0, gl, 0, []⟩ (finN P fn R)) : FnP P gl f xs R :=
 FnP.introD hf hname hb hn (fun m a hS => wp_mono (h m a hS) (by
  rintro e a' w' ⟨m', σ', ax, h1, h2, h3, h4, h5⟩
  refine ⟨m', σ', ax, h1, h2, h3, h4, ?_⟩
  cases ax with
  | panic x => exact h5.elim
  | _ => exact h5))
end Aw
