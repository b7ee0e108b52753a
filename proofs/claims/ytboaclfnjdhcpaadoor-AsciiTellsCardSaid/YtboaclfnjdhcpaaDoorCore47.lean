/- Rules of a calculus of walks: no condition of its own. -/
import Derived.Test.YtboaclfnjdhcpaaDoorCore46
namespace Aw
open Go
theorem awGuard.cGy {P : Program} {ds : List (Option Tmp)} {σ : St} {o : Oper} {K : St → Prop} {Kp : AV → St → Prop} {ob ob' : Prop} {f : FuncId} {ys xs : List AV} {y : AV} {p : Nat × Bool} {g : Bool} (ys' : List AV) (hy : g = true → ys = ys')
  (hc : g = true → FnP P σ.gl f xs fun r=>r = .ret y) (hK : K (σ.put o.dst (.opt g y))) (hg : o.guard = some p:=by exact rfl) (hgv : gAt ds σ p.1 p.2 = some g:=by first | ((simp only [go_sem,seval]; iterate 2 try (simp (disch:=omega) only [zq]; try simp only [go_sem,seval])); done) | ((simp only [go_sem,seval]; iterate 2 try (simp (disch:=omega) only [zq]; try simp only [go_sem,seval])); exact rfl))
  (h : acall σ o.op = some (ob,f,ys):=by (simp only [go_sem,seval]; iterate 2 try (simp (disch:=omega) only [zq]; try simp only [go_sem,seval])); exact rfl) (hx : mapO (shr true (frzs σ.hp (ys'.flatMap (rids σ.hp 9))) 9) ys' = some (ob',xs):=by (simp only [go_sem,seval]; iterate 2 try (simp (disch:=omega) only [zq]; try simp only [go_sem,seval])); exact rfl) (hd : dstOk σ.n o.dst = true:=by (simp only [go_sem,seval]; iterate 2 try (simp (disch:=omega) only [zq]; try simp only [go_sem,seval])))
  (hfr : frzs σ.hp (ys'.flatMap (rids σ.hp 9)) = σ.hp:=by (simp only [go_sem,seval]; iterate 2 try (simp (disch:=omega) only [zq]; try simp only [go_sem,seval]))) (hob : g = true → ob:=by ((try (simp only [go_sem,seval]; iterate 2 try (simp (disch:=omega) only [zq]; try simp only [go_sem,seval]))); try (first | exact True.intro | omega | (simp only [zb]; omega) | (simp; done) | (simp; omega) | (and_intros <;> first | assumption | omega | (simp; done) | (simp; omega))))) (hob' : ob':=by ((try (simp only [go_sem,seval]; iterate 2 try (simp (disch:=omega) only [zq]; try simp only [go_sem,seval]))); try (first | exact True.intro | omega | (simp only [zb]; omega) | (simp; done) | (simp; omega) | (and_intros <;> first | assumption | omega | (simp; done) | (simp; omega))))) : awGuard P ds o σ K Kp:=by
 unfold awGuard
 rw [hg]
 simp only
 rw [hgv]
 simp only
 rw [(acall_pure h).1]
 simp only
 refine .inr ⟨y,hd,fun ht=>?_,hK⟩
 obtain rfl:=hy ht
 refine SemStep.call h (hob ht) hd hx hob' (hc ht) ?_ ?_
 ·intro z hz
  cases hz
  rw [hfr]
 ·intro z hz
  cases hz
end Aw
