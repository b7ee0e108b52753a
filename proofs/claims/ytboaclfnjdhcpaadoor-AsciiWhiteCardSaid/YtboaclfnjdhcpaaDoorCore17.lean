/- Rules of a calculus of walks: no condition of its own. -/
import Derived.Test.YtboaclfnjdhcpaaDoorCore16
namespace Aw
open Go
theorem awGuard.gT {P : Program} {ds : List (Option Tmp)} {σ : St} {o : Oper} {K : St → Prop} {Kp : AV → St → Prop} {p : Nat × Bool} {g : Bool} {e : Eff} (hK : K (St.put ⟨σ.n,σ.env,e.hp,e.nx,σ.gl,σ.np,σ.df⟩ o.dst e.val)) (hg : o.guard = some p:=by exact rfl) (hgv : gAt ds σ p.1 p.2 = some g:=by (simp only [go_sem,seval]; iterate 2 try (simp (disch:=omega) only [zq]; try simp only [go_sem,seval])); exact rfl)
  (hgt : g = true:=by first | rfl | (simp; done) | decide +kernel) (hn : ∀ b,pureOp P σ b o.op = none:=by intro b; exact rfl) (h : effOp P σ o.op = some e:=by (simp only [go_sem,seval]; iterate 2 try (simp (disch:=omega) only [zq]; try simp only [go_sem,seval])); exact rfl) (hob : e.ob:=by ((try (simp only [go_sem,seval]; iterate 2 try (simp (disch:=omega) only [zq]; try simp only [go_sem,seval]))); try (first | exact True.intro | omega | (simp only [zb]; omega) | (simp; done) | (simp; omega) | (and_intros <;> first | assumption | omega | (simp; done) | (simp; omega))))) (hd : dstOk σ.n o.dst = true:=by (simp only [go_sem,seval]; iterate 2 try (simp (disch:=omega) only [zq]; try simp only [go_sem,seval]))) : awGuard P ds o σ K Kp:=by
 subst hgt
 unfold awGuard
 rw [hg]
 simp only
 rw [hgv]
 simp only
 rw [hn]
 simp only
 refine .inl ⟨fun _=>?_,fun h=>(by cases h)⟩
 unfold awStep
 rw [hn,h]
 exact ⟨hd,hob,hK⟩
theorem AW.trim {P : Program} {σ : St} {c : Code} {Q : AX → St → Prop} (L : List Nat) {E : List (Nat × AV)} (k : AW P c ⟨σ.n,E,σ.hp,σ.nx,σ.gl,σ.np,σ.df⟩ Q) (hE : keepE L σ.env = E:=by (simp only [go_sem,seval]; iterate 2 try (simp (disch:=omega) only [zq]; try simp only [go_sem,seval])); exact rfl) : AW P c σ Q:=by
 subst hE
 refine AW.pre (σ':=⟨σ.n,keepE L σ.env,σ.hp,σ.nx,σ.gl,σ.np,σ.df⟩) (fun m a hS=>⟨m,rfl,.refl m,hS.fewer ⟨rfl,rfl,rfl,rfl,rfl,rfl⟩ fun t x h=>(get_keepE _ _ t x h).2⟩) k
end Aw
