/- Rules of a calculus of walks: no condition of its own. -/
import Derived.Test.YtboaclfnjdhcpaaDoorCore44
import Derived.DeepKeys
namespace Aw
open Go
section
variable {P : Program} {ds : List (Option Tmp)} {σ : St} {o : Oper} {K : St → Prop} {Kp : AV → St → Prop} {ob ob' : Prop}
def EqS (P : Program) (t : TypeId) (X Y : AV) (c : Bool) : Prop:=∀ (m : Mem) (v u : Value) (x y : Operand),Rep m 0 X v → Rep m 0 Y u → (do eqGuard .eql t x y v u; binOp .eql t v u : Sem Value).run P m.w = .ok (.bool c) m.w
theorem SemStep.eqS {t yt : TypeId} {x y : Operand} {X Y : AV} {c : Bool} (heq : EqS P t X Y c) (hop : o.op = .binOp .eql t x y yt) (hx : evE σ x = some (ob,X)) (hy : evE σ y = some (ob',Y)) (hob : ob) (hob' : ob') (hd : dstOk σ.n o.dst = true)
  (hK : K (σ.put o.dst (.bool c))) : SemStep P σ o K Kp:=by
 intro m a N Q hS hN hQ
 have hv:=evE_sound hS hx hob
 have hu:=evE_sound hS hy hob'
 have hrun : (execOp a.eval o).run P m.w = .ok (.value (.bool c)) m.w:=by
  simp only [execOp,hop]
  exact run_value (heq m _ _ x y hv hu)
 unfold Oper.wp
 rw [hrun]
 exact hN m _ _ (.refl m) (.refl m) (hS.put (.refl m) hS.h hd (by simp only [Rep])) .put .put hK
theorem awGuard.eqG {t yt : TypeId} {x y : Operand} {X Y : AV} {c g : Bool} {p : Nat × Bool} (heq : EqS P t X Y c) (hK : K (σ.put o.dst (.opt g (.bool c)))) (hop : o.op = .binOp .eql t x y yt:=by exact rfl) (hg : o.guard = some p:=by exact rfl) (hgv : gAt ds σ p.1 p.2 = some g:=by (simp only [go_sem,seval]; iterate 2 try (simp (disch:=omega) only [zq]; try simp only [go_sem,seval])); exact rfl) (hx : evE σ x = some (ob,X):=by (simp only [go_sem,seval]; iterate 2 try (simp (disch:=omega) only [zq]; try simp only [go_sem,seval])); exact rfl) (hy : evE σ y = some (ob',Y):=by (simp only [go_sem,seval]; iterate 2 try (simp (disch:=omega) only [zq]; try simp only [go_sem,seval])); exact rfl)
  (hd : dstOk σ.n o.dst = true:=by (simp only [go_sem,seval]; iterate 2 try (simp (disch:=omega) only [zq]; try simp only [go_sem,seval]))) (hob : g = true → ob:=by ((try (simp only [go_sem,seval]; iterate 2 try (simp (disch:=omega) only [zq]; try simp only [go_sem,seval]))); try (first | exact True.intro | omega | (simp only [zb]; omega) | (simp; done) | (simp; omega) | (and_intros <;> first | assumption | omega | (simp; done) | (simp; omega))))) (hob' : g = true → ob':=by ((try (simp only [go_sem,seval]; iterate 2 try (simp (disch:=omega) only [zq]; try simp only [go_sem,seval]))); try (first | exact True.intro | omega | (simp only [zb]; omega) | (simp; done) | (simp; omega) | (and_intros <;> first | assumption | omega | (simp; done) | (simp; omega))))) (hn : pureOp P σ g o.op = none:=by (simp only [go_sem,seval]; iterate 2 try (simp (disch:=omega) only [zq]; try simp only [go_sem,seval]))) : awGuard P ds o σ K Kp:=by
 unfold awGuard
 rw [hg]
 simp only
 rw [hgv]
 simp only
 rw [hn]
 exact .inr ⟨.bool c,hd,fun h=>SemStep.eqS heq hop hx hy (hob h) (hob' h) hd rfl,hK⟩
end
theorem EqS.of {P : Program} {t : TypeId} {l1 l2 : List Int} (hk : P.keyTypeAt 3 t = true) (hgt : P.eqGuardType P.depth t = false)
  (hf : ∀ l : List Int,l.length = l1.length → (Value.agg (l.map (Value.int .i64)).toArray).formed P t = true) (hL : ∀ l : List Int,l.length = l1.length → (∀ x ∈ l,(Lit.int .i64 x).wf = true) → P.keyLits 3 t (l.map (Value.int .i64)) = some (l.map (Lit.int .i64)))
  (hl : l2.length = l1.length) (h1 : ∀ x ∈ l1,(Lit.int .i64 x).wf = true) (h2 : ∀ x ∈ l2,(Lit.int .i64 x).wf = true) : EqS P t (.agg (l1.map (AV.int .i64))) (.agg (l2.map (AV.int .i64))) (decide (l1 = l2)):=by
 have key : ∀ (m : Mem) (l : List Int) (vs : List Value),RepL m 0 (l.map (AV.int .i64)) vs → vs = l.map (Value.int .i64):=by
  intro m l
  induction l with
  | nil=>intro vs h; simpa [RepL] using h
  | cons a l ih =>
   intro vs h
   simp only [List.map_cons,RepL,Rep] at h
   obtain ⟨v,r,rfl,rfl,hr⟩:=h
   rw [ih r hr]
   rfl
 intro m v u x y hv hu'
 simp only [Rep] at hv hu'
 obtain ⟨vs,rfl,hvs⟩:=hv
 obtain ⟨us,rfl,hus⟩:=hu'
 have e1:=key m l1 _ hvs
 have e2:=key m l2 _ hus
 have e1' : vs = (l1.map (Value.int .i64)).toArray:=Array.ext' e1
 have e2' : us = (l2.map (Value.int .i64)).toArray:=Array.ext' e2
 subst e1' e2'
 obtain ⟨r,hr,hiff⟩:=run_equalIn_deep (10000 - 3) 3 t hk m.w 3 3 _ _ _ _ (hf l1 rfl) (hf l2 hl) (hL l1 rfl h1) (hL l2 hl h2)
 have hrr : r = decide (l1 = l2):=by
  rw [Bool.eq_iff_iff,hiff,decide_eq_true_iff]
  constructor
  ·intro h
   have:=congrArg (List.map fun q : Lit=>match q with | .int _ n=>n | _=>0) h
   simpa [List.map_map,Function.comp_def] using this
  ·rintro rfl; rfl
 subst hrr
 have hG : (eqGuard .eql t x y (.agg (l1.map (Value.int .i64)).toArray) (.agg (l2.map (Value.int .i64)).toArray)).run P m.w = .ok () m.w:=by
  have hp : (program : Sem Program).run P m.w = .ok P m.w:=rfl
  simp only [eqGuard,Bool.not_true,Bool.false_eq_true,if_false]
  rw [run_bind hp,run_bind hp,hgt]
  rfl
 rw [run_bind hG]
 show (do pure (Value.bool (← Op.equal t _ _)) : Sem Value).run P m.w = _
 rw [run_bind (show (Op.equal t _ _).run P m.w = _ from hr)]
 rfl
end Aw
