/- Rules of a calculus of walks: no condition of its own. -/
import Derived.Test.YtboaclfnjdhcpaaDoorCore38
namespace Aw
open Go
section
variable {B : Bs} {r : Option Nat} {Θ : Mem → Prop} {P : Program} {σ : St} {Q : AX → St → Prop} {y : Code} {id : Nat} {ops : Array Oper}
section
variable {K : St → Prop} {Kp : AV → St → Prop} {o : Oper} {i k : Nat} {t r : PT} {ob ob' : Prop} {σ' σf : St} {f : FuncId} {xs ys : List AV}
theorem awTree.fM {c : Bool} {y z : AV} {q1 q2 : Prop} (hc : FnP P σ.gl f xs fun r=>r = if c = true then .ret y else .panic z) (hKp : q2 → Kp z ⟨σ.n,σ.env,frzs σ.hp (ys.flatMap (rids σ.hp 9)),σ.nx,σ.gl,σ.np,σ.df⟩)
  (hk : q1 → awTree P ops K Kp t (St.put ⟨σ.n,σ.env,frzs σ.hp (ys.flatMap (rids σ.hp 9)),σ.nx,σ.gl,σ.np,σ.df⟩ o.dst y)) (hr : awTree P ops K Kp r σ) (ho : nth ops.toList i = some o:=by exact rfl) (hg : o.guard = none:=by exact rfl)
  (h : acall σ o.op = some (ob,f,ys):=by (simp only [go_sem,seval]; iterate 2 try (simp (disch:=omega) only [zq]; try simp only [go_sem,seval])); exact rfl) (hx : mapO (shr true (frzs σ.hp (ys.flatMap (rids σ.hp 9))) 9) ys = some (ob',xs):=by (simp only [go_sem,seval]; iterate 2 try (simp (disch:=omega) only [zq]; try simp only [go_sem,seval])); exact rfl) (hd : dstOk σ.n o.dst = true:=by (simp only [go_sem,seval]; iterate 2 try (simp (disch:=omega) only [zq]; try simp only [go_sem,seval]))) (hob : ob:=by ((try (simp only [go_sem,seval]; iterate 2 try (simp (disch:=omega) only [zq]; try simp only [go_sem,seval]))); try (first | exact True.intro | omega | (simp only [zb]; omega) | (simp; done) | (simp; omega) | (and_intros <;> first | assumption | omega | (simp; done) | (simp; omega))))) (hob' : ob':=by ((try (simp only [go_sem,seval]; iterate 2 try (simp (disch:=omega) only [zq]; try simp only [go_sem,seval]))); try (first | exact True.intro | omega | (simp only [zb]; omega) | (simp; done) | (simp; omega) | (and_intros <;> first | assumption | omega | (simp; done) | (simp; omega)))))
  (e1 : (c = true) = q1:=by (try simp only [zb]); exact rfl) (e2 : (c = false) = q2:=by (try simp only [zb]); exact rfl) : awTree P ops K Kp (.fork i t r) σ :=
 ⟨⟨o,nth_ops ho,awGuard.callM hg h hx hd hob hob' hc (fun h=>hk (e1 ▸ h)) (fun h=>hKp (e2 ▸ h))⟩,hr⟩
end
end
end Aw
