/- Rules of a calculus of walks: no condition of its own. -/
import Derived.Test.YtboaclfnjdhcpaaDoorCore32
namespace Aw
open Go
theorem awFun.cH {P : Program} {ops : Array Oper} {K : St → Prop} {σ : St} {i : Nat} {o : Oper} {rest : List Nat} {ob ob' : Prop} {f : FuncId} {ys zs xs : List AV} {y : AV} {hp0 : List (Nat × ABlk)} (T L : List Nat) (hc : FnH P σ.gl f xs hp0 L.length fun r h n=>r = .ret y ∧ h = hp0 ∧ n = L.length) (hK : awFun P ops K rest (σ.put o.dst (ren (bk L σ.nx) y))) (ho : nth ops.toList i = some o:=by exact rfl) (hg : o.guard = none:=by exact rfl)
  (hT : T.all (fun t=>(o.looksAt ops).contains t) = true:=by kernel_rfl)
  (h : acall ⟨σ.n,keepE T σ.env,σ.hp,σ.nx,σ.gl,σ.np,σ.df⟩ o.op = some (ob,f,ys):=by (simp only [go_sem,seval]; iterate 2 try (simp (disch:=omega) only [zq]; try simp only [go_sem,seval])); exact rfl) (hz : mapO (fz σ.hp 9) ys = some (ob',zs):=by (simp only [go_sem,seval]; iterate 2 try (simp (disch:=omega) only [zq]; try simp only [go_sem,seval])); exact rfl) (hd : dstOk σ.n o.dst = true:=by (simp only [go_sem,seval]; iterate 2 try (simp (disch:=omega) only [zq]; try simp only [go_sem,seval]))) (hL : L.all (fun id=>(get σ.hp id).isSome) = true:=by (simp only [go_sem,seval]; iterate 2 try (simp (disch:=omega) only [zq]; try simp only [go_sem,seval]))) (hnd : L.Nodup:=by decide)
  (hhp : viewHp (Aw.pick L σ.nx) L.length σ.hp hp0:=by (try (simp only [go_sem,seval]; iterate 2 try (simp (disch:=omega) only [zq]; try simp only [go_sem,seval]))) <;> (try (first | rfl | trivial | (and_intros <;> first | rfl | trivial)))) (hxs : renL (Aw.pick L σ.nx) xs = zs:=by (try (simp only [go_sem,seval]; iterate 2 try (simp (disch:=omega) only [zq]; try simp only [go_sem,seval]))) <;> (try rfl))
  (hs : appHp (dels σ.hp L) (renHp (bk L σ.nx) hp0) = σ.hp:=by (try (simp only [go_sem,seval]; iterate 2 try (simp (disch:=omega) only [zq]; try simp only [go_sem,seval]))) <;> (try rfl)) (hob : ob:=by ((try (simp only [go_sem,seval]; iterate 2 try (simp (disch:=omega) only [zq]; try simp only [go_sem,seval]))); try (first | exact True.intro | omega | (simp only [zb]; omega) | (simp; done) | (simp; omega) | (and_intros <;> first | assumption | omega | (simp; done) | (simp; omega))))) (hob' : ob':=by ((try (simp only [go_sem,seval]; iterate 2 try (simp (disch:=omega) only [zq]; try simp only [go_sem,seval]))); try (first | exact True.intro | omega | (simp only [zb]; omega) | (simp; done) | (simp; omega) | (and_intros <;> first | assumption | omega | (simp; done) | (simp; omega))))) (hb : (backOk L hp0 L.length && noT y) = true:=by (simp only [go_sem,seval]; iterate 2 try (simp (disch:=omega) only [zq]; try simp only [go_sem,seval]))) : awFun P ops K (i :: rest) σ:=by
 refine ⟨o,ren (bk L σ.nx) y,nth_ops ho,⟨⟨σ.n,keepE T σ.env,σ.hp,σ.nx,σ.gl,σ.np,σ.df⟩,⟨rfl,rfl,rfl,rfl,rfl,rfl⟩,?_,?_⟩,hK⟩
 ·intro t x ht
  obtain ⟨h1,h2⟩:=get_keepE _ _ t x ht
  have:=List.all_eq_true.1 hT t h1
  exact ⟨by simpa using this,h2⟩
 ·refine awGuard_sound (nth_ops ho) (awGuard.callH1 (σ:=⟨σ.n,keepE T σ.env,σ.hp,σ.nx,σ.gl,σ.np,σ.df⟩) hg h hz hd hL hnd hhp hxs hob hob' hc hb ?_)
  exact ⟨by cases o.dst <;> exact hs,by cases o.dst <;> (show σ.nx + (L.length - L.length) = σ.nx; omega),fun d hd=>by rw [hd]; simp [St.put,get_set]⟩
theorem awGuard.cHT {P : Program} {ds : List (Option Tmp)} {σ : St} {o : Oper} {K : St → Prop} {Kp : AV → St → Prop} {ob ob' : Prop} {f : FuncId} {ys zs xs : List AV} {y : AV} {hp0 hp1 : List (Nat × ABlk)} {n1 : Nat} {p : Nat × Bool} {g : Bool} (L : List Nat) (hc : FnH P σ.gl f xs hp0 L.length fun r h n=>r = .ret y ∧ h = hp1 ∧ n = n1) (hK : K (St.put (backSt σ L hp1 n1) o.dst (ren (bk L σ.nx) y))) (hg : o.guard = some p:=by exact rfl)
  (hgv : gAt ds σ p.1 p.2 = some g:=by (simp only [go_sem,seval]; iterate 2 try (simp (disch:=omega) only [zq]; try simp only [go_sem,seval])); exact rfl) (hgt : g = true:=by first | rfl | (simp; done) | decide +kernel)
  (h : acall σ o.op = some (ob,f,ys):=by (simp only [go_sem,seval]; iterate 2 try (simp (disch:=omega) only [zq]; try simp only [go_sem,seval])); exact rfl) (hz : mapO (fz σ.hp 9) ys = some (ob',zs):=by (simp only [go_sem,seval]; iterate 2 try (simp (disch:=omega) only [zq]; try simp only [go_sem,seval])); exact rfl) (hd : dstOk σ.n o.dst = true:=by (simp only [go_sem,seval]; iterate 2 try (simp (disch:=omega) only [zq]; try simp only [go_sem,seval]))) (hL : L.all (fun id=>(get σ.hp id).isSome) = true:=by (simp only [go_sem,seval]; iterate 2 try (simp (disch:=omega) only [zq]; try simp only [go_sem,seval]))) (hnd : L.Nodup:=by decide)
  (hhp : viewHp (Aw.pick L σ.nx) L.length σ.hp hp0:=by (try (simp only [go_sem,seval]; iterate 2 try (simp (disch:=omega) only [zq]; try simp only [go_sem,seval]))) <;> (try (first | rfl | trivial | (and_intros <;> first | rfl | trivial)))) (hxs : renL (Aw.pick L σ.nx) xs = zs:=by (try (simp only [go_sem,seval]; iterate 2 try (simp (disch:=omega) only [zq]; try simp only [go_sem,seval]))) <;> (try rfl)) (hob : ob:=by ((try (simp only [go_sem,seval]; iterate 2 try (simp (disch:=omega) only [zq]; try simp only [go_sem,seval]))); try (first | exact True.intro | omega | (simp only [zb]; omega) | (simp; done) | (simp; omega) | (and_intros <;> first | assumption | omega | (simp; done) | (simp; omega))))) (hob' : ob':=by ((try (simp only [go_sem,seval]; iterate 2 try (simp (disch:=omega) only [zq]; try simp only [go_sem,seval]))); try (first | exact True.intro | omega | (simp only [zb]; omega) | (simp; done) | (simp; omega) | (and_intros <;> first | assumption | omega | (simp; done) | (simp; omega)))))
  (hb : (backOk L hp1 n1 && noT y) = true:=by (simp only [go_sem,seval]; iterate 2 try (simp (disch:=omega) only [zq]; try simp only [go_sem,seval]))) : awGuard P ds o σ K Kp:=by
 subst hgt
 unfold awGuard
 rw [hg]
 simp only
 rw [hgv]
 simp only
 rw [(acall_pure h).1]
 simp only
 refine .inl ⟨fun _=>?_,fun h=>(by cases h)⟩
 unfold awStep
 rw [(acall_pure h).1,(acall_pure (P:=P) (g:=true) h).2]
 exact SemStep.callH h hob hd hz hob' hL hnd hhp hxs hc (fun z _ _ ⟨h1,h2,h3⟩=>by cases h1; subst h2 h3; exact ⟨hb,hK⟩) (fun _ _ _ ⟨h1,_⟩=>by cases h1)
theorem AW.fin2 {P : Program} {c : Code} {σ : St} {Q : AX → St → Prop} (h : AW P c σ (fun x σ'=>(x = .normal ∨ x = .ret) ∧ ∃ σ2,St.le σ2 σ' ∧ Q x σ2)) : AW P c σ Q:=by
 intro m a hS
 refine wp_mono (h m a hS) ?_
 rintro e a' w' ⟨m',σ',ax,rfl,hle,hS',hex,hx,σ2,hl2,hq⟩
 obtain ⟨m2,e2,l2,s2⟩:=hl2 m' a' hS'
 refine ⟨m2,σ2,ax,e2,hle.trans l2,s2,?_,hq⟩
 rcases hx with rfl | rfl
 ·exact hex
 ·exact hex
end Aw
