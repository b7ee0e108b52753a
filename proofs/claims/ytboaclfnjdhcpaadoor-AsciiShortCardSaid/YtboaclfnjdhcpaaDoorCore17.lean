/- Rules of a calculus of walks: no condition of its own. -/
import Derived.Test.YtboaclfnjdhcpaaDoorCore16
namespace Aw
open Go
theorem awGuard.gT {P : Program} {ds : List (Option Tmp)} {σ : St} {o : Oper} {K : St → Prop} {Kp : AV → St → Prop} {p : Nat × Bool} {g : Bool} {e : Eff} (hK : K (St.put ⟨σ.n,σ.env,e.hp,e.nx,σ.gl,σ.np,σ.df⟩ o.dst e.val)) (hg : o.guard = some p:=by exact rfl) (hgv : gAt ds σ p.1 p.2 = some g:=by (simp only [go_sem,seval]; iterate 2 try (simp (disch:=omega) only [zq]; try simp only [go_sem,seval])); exact rfl)
  (hgt : g = true:=by first | rfl | (simp; done) | decide +kernel) (hn : ∀ b,pureOp P σ b o.op = none:=by intro b; exact rfl) (h : effOp P σ o.op = some e:=by (simp only [go_sem,seval]; iterate 2 try (simp (disch:=omega) only [zq]; try simp only [go_sem,seval])); exact rfl) (hob : e.ob:=by ((try (simp only [go_sem,seval]; iterate 2 try (simp (disch:=omega) only [zq]; try simp only [go_sem,seval]))); try (first | exact True.intro | omega | (simp only [zb]; omega) | (simp; done) | (simp; omega) | (and_intros <;> first | assumption | omega | (simp; done) | (simp; omega))))) (hd : dstOk σ.n o.dst = true:=by (simp only [go_sem,seval]; iterate 2 try (simp (disch:=omega) only [zq]; try simp only [go_sem,seval]))) : awGuard P ds o σ K Kp:=by
 subst hgt
 unfold awGuard
 rw [hg]
 simp only
 rw [hgv]
 simp only
 rw [hn]
 simp only
 refine .inl ⟨fun _=>?_,fun h=>(by cases h)⟩
 unfold awStep
 rw [hn,h]
 exact ⟨hd,hob,hK⟩
theorem AW.trim {P : Program} {σ : St} {c : Code} {Q : AX → St → Prop} (L : List Nat) {E : List (Nat × AV)} (k : AW P c ⟨σ.n,E,σ.hp,σ.nx,σ.gl,σ.np,σ.df⟩ Q) (hE : keepE L σ.env = E:=by (simp only [go_sem,seval]; iterate 2 try (simp (disch:=omega) only [zq]; try simp only [go_sem,seval])); exact rfl) : AW P c σ Q:=by
 subst hE
 refine AW.pre (σ':=⟨σ.n,keepE L σ.env,σ.hp,σ.nx,σ.gl,σ.np,σ.df⟩) (fun m a hS=>⟨m,rfl,.refl m,hS.fewer ⟨rfl,rfl,rfl,rfl,rfl,rfl⟩ fun t x h=>(get_keepE _ _ t x h).2⟩) k
theorem awFun.cG {P : Program} {ops : Array Oper} {K : St → Prop} {σ : St} {i : Nat} {o : Oper} {rest : List Nat} {ob ob' : Prop} {f : FuncId} {ys xs : List AV} {y : AV} {p : Nat × Bool} {g : Bool} (L : List Nat) (hc : g = true → FnP P σ.gl f xs fun r=>r = .ret y) (hK : awFun P ops K rest (σ.put o.dst (.opt g y))) (ho : nth ops.toList i = some o:=by exact rfl) (hg : o.guard = some p:=by exact rfl) (hL : L.all (fun t=>(o.looksAt ops).contains t) = true:=by kernel_rfl)
  (hgv : gAt (ops.toList.map (·.dst)) ⟨σ.n,keepE L σ.env,σ.hp,σ.nx,σ.gl,σ.np,σ.df⟩ p.1 p.2 = some g:=by (simp only [go_sem,seval]; iterate 2 try (simp (disch:=omega) only [zq]; try simp only [go_sem,seval])); exact rfl) (h : acall ⟨σ.n,keepE L σ.env,σ.hp,σ.nx,σ.gl,σ.np,σ.df⟩ o.op = some (ob,f,ys):=by (simp only [go_sem,seval]; iterate 2 try (simp (disch:=omega) only [zq]; try simp only [go_sem,seval])); exact rfl)
  (hx : mapO (shr true (frzs σ.hp (ys.flatMap (rids σ.hp 9))) 9) ys = some (ob',xs):=by (simp only [go_sem,seval]; iterate 2 try (simp (disch:=omega) only [zq]; try simp only [go_sem,seval])); exact rfl) (hd : dstOk σ.n o.dst = true:=by (simp only [go_sem,seval]; iterate 2 try (simp (disch:=omega) only [zq]; try simp only [go_sem,seval]))) (hfr : frzs σ.hp (ys.flatMap (rids σ.hp 9)) = σ.hp:=by (simp only [go_sem,seval]; iterate 2 try (simp (disch:=omega) only [zq]; try simp only [go_sem,seval]))) (hob : g = true → ob ∧ ob':=by ((try (simp only [go_sem,seval]; iterate 2 try (simp (disch:=omega) only [zq]; try simp only [go_sem,seval]))); try (first | exact True.intro | omega | (simp only [zb]; omega) | (simp; done) | (simp; omega) | (and_intros <;> first | assumption | omega | (simp; done) | (simp; omega))))) : awFun P ops K (i :: rest) σ:=by
 refine ⟨o,.opt g y,nth_ops ho,⟨⟨σ.n,keepE L σ.env,σ.hp,σ.nx,σ.gl,σ.np,σ.df⟩,⟨rfl,rfl,rfl,rfl,rfl,rfl⟩,?_,?_⟩,hK⟩
 ·intro t x ht
  obtain ⟨h1,h2⟩:=get_keepE _ _ t x ht
  have:=List.all_eq_true.1 hL t h1
  exact ⟨by simpa using this,h2⟩
 ·refine awGuard_sound (nth_ops ho) (awGuard.callG (σ:=⟨σ.n,keepE L σ.env,σ.hp,σ.nx,σ.gl,σ.np,σ.df⟩) hg hgv h hx hd hfr hob hc ?_)
  exact ⟨by cases o.dst <;> rfl,by cases o.dst <;> rfl,fun d hd=>by rw [hd]; simp [St.put,get_set]⟩
theorem AW.clo {P : Program} {σ : St} {c : Code} {Q : AX → St → Prop} (t : Nat) {x y : AV} {ob : Prop} {hp' : List (Nat × ABlk)} (k : AW P c ⟨σ.n,set σ.env t y,hp',σ.nx,σ.gl,σ.np,σ.df⟩ Q) (hx : get σ.env t = some x:=by (simp only [go_sem,seval]; iterate 2 try (simp (disch:=omega) only [zq]; try simp only [go_sem,seval])); exact rfl) (hh : frzs σ.hp (rids σ.hp 9 x) = hp':=by (simp only [go_sem,seval]; iterate 2 try (simp (disch:=omega) only [zq]; try simp only [go_sem,seval])); exact rfl)
  (h : shr false hp' 9 x = some (ob,y):=by (simp only [go_sem,seval]; iterate 2 try (simp (disch:=omega) only [zq]; try simp only [go_sem,seval])); exact rfl) (hob : ob:=by ((try (simp only [go_sem,seval]; iterate 2 try (simp (disch:=omega) only [zq]; try simp only [go_sem,seval]))); try (first | exact True.intro | omega | (simp only [zb]; omega) | (simp; done) | (simp; omega) | (and_intros <;> first | assumption | omega | (simp; done) | (simp; omega))))) : AW P c σ Q:=by
 subst hh
 refine AW.pre (σ':=⟨σ.n,set σ.env t y,frzs σ.hp (rids σ.hp 9 x),σ.nx,σ.gl,σ.np,σ.df⟩) (fun m a hS=>?_) k
 obtain ⟨m',h1,h2,h3,h4,h5⟩:=frzs_sound (rids σ.hp 9 x) hS.h
 refine ⟨m',h1,h3,h5,hS.n,hS.defers.mono h4,?_,fun g z hg=>Rep.mono h4 1 _ _ (hS.gl g z hg),by have:=h3.np; rw [this]; exact hS.np⟩
 intro u z hz
 simp only [get_set] at hz
 split at hz
 ·rename_i e
  subst e
  injection hz with hz
  subst hz
  obtain ⟨g1,g2⟩:=hS.env _ _ hx
  refine ⟨g1,?_⟩
  have:=shr_sound h5 false (m':=m') ⟨fun _ _ h=>h,fun _ _ _=>rfl⟩ rfl (fun h=>by cases h) 9 x y _ ob h hob (Rep.mono h4 0 _ _ g2)
  exact Rep.down (by decide) _ _ this
 ·obtain ⟨g1,g2⟩:=hS.env u z hz
  exact ⟨g1,Rep.mono h4 0 _ _ g2⟩
end Aw
