/- Rules of a calculus of walks: no condition of its own. -/
import Derived.Test.YtboaclfnjdhcpaaDoorCore4
namespace Aw
open Go

structure Eqv (σ σ' : St) : Prop where
 n : σ'.n = σ.n
 gl : σ'.gl = σ.gl
 np : σ'.np = σ.np
 hp : σ'.hp = σ.hp
 nx : σ'.nx = σ.nx
 df : σ'.df = σ.df
 env : ∀ t,get σ'.env t = get σ.env t
theorem Eqv.refl (σ : St) : Eqv σ σ:=⟨rfl,rfl,rfl,rfl,rfl,rfl,fun _=>rfl⟩
theorem Eqv.symm {σ σ' : St} (h : Eqv σ σ') : Eqv σ' σ:=⟨h.n.symm,h.gl.symm,h.np.symm,h.hp.symm,h.nx.symm,h.df.symm,fun t=>(h.env t).symm⟩
theorem Eqv.trans {σ σ' σ'' : St} (h : Eqv σ σ') (h' : Eqv σ' σ'') : Eqv σ σ'':=⟨h'.n.trans h.n,h'.gl.trans h.gl,h'.np.trans h.np,h'.hp.trans h.hp,h'.nx.trans h.nx,h'.df.trans h.df,fun t=>(h'.env t).trans (h.env t)⟩
theorem Sim.eqv {m : Mem} {a : Act} {σ σ' : St} (hS : Sim m a σ) (h : Eqv σ σ') : Sim m a σ' :=
 ⟨by rw [h.hp,h.nx]; exact hS.h,hS.n.trans h.n.symm,by rw [h.df]; exact hS.defers,fun t x ht=>by rw [h.n]; exact hS.env t x (by rw [← h.env]; exact ht),fun g x hg=>hS.gl g x (by rw [← h.gl]; exact hg),hS.np.trans h.np.symm⟩

section
variable {P : Program} {ops : Array Oper}

def GStep (P : Program) (ops : Array Oper) (i : Nat) (σ : St) (K : St → Prop) (Kp : AV → St → Prop) : Prop :=
 match ops[i]? with
 | none=>K σ
 | some o=>∀ (m : Mem) (a : Act) (N : Act → World → Prop) (Q : Exit → Act → World → Prop),Sim m a σ →
  (∀ m' a' σ',m.le m' → m.keeps m' → Sim m' a' σ' → Keeps o σ σ' → Leaves o a a' → K σ' → N a' m'.w) →
  (∀ m' σ' x v,m.le m' → m.keeps m' → Sim m' a σ' → Rep m' 0 x v → (∀ t,get σ'.env t = get σ.env t) → Kp x σ' → Q (.panic [{ v,recovered:=false }]) a m'.w) →
  if Region.wanted o (yielded ops a.tmps) = true then o.wp P a m.w N Q else N (a.put o.dst undef) m.w

theorem GStep.mono {i : Nat} {σ : St} {K K' : St → Prop} {Kp : AV → St → Prop} (h : GStep P ops i σ K Kp) (hk : ∀ σ',K σ' → K' σ') : GStep P ops i σ K' Kp:=by
 unfold GStep at *
 split at h
 ·exact hk _ h
 ·intro m a N Q hS hN hQ
  exact h m a N Q hS (fun m' a' σ' h1 h2 h3 h4 h5 h6=>hN m' a' σ' h1 h2 h3 h4 h5 (hk _ h6)) hQ
theorem GStep.eqv {i : Nat} {σ σ2 : St} {K : St → Prop} {Kp : AV → St → Prop} (h : GStep P ops i σ K Kp) (he : Eqv σ σ2) (hK : ∀ σ σ',Eqv σ σ' → K σ → K σ') : GStep P ops i σ2 K Kp:=by
 unfold GStep at *
 split at h
 ·exact hK _ _ he h
 ·intro m a N Q hS hN hQ
  refine h m a N Q (hS.eqv he.symm) (fun m' a' σ' h1 h2 h3 h4 h5 h6=>hN m' a' σ' h1 h2 h3 ⟨h4.n.trans he.n.symm,h4.gl.trans he.gl.symm,h4.np.trans he.np.symm,h4.df.trans he.df.symm,fun t ht=>(h4.env t ht).trans (he.env t).symm,fun hf=>?_,fun hA id b hg=>h4.hpA hA id b (he.hp ▸ hg)⟩ h5 h6)
   (fun m' σ' x v h1 h2 h3 h4 h5 h6=>hQ m' σ' x v h1 h2 h3 h4 (fun t=>(h5 t).trans (he.env t).symm) h6)
  obtain ⟨e1,e2⟩:=h4.hp hf
  exact ⟨e1.trans he.hp.symm,e2.trans he.nx.symm⟩

theorem awGuard_sound {i : Nat} {o : Oper} (ho : ops[i]? = some o) {σ : St} {K : St → Prop} {Kp : AV → St → Prop} (h : awGuard P (ops.toList.map (·.dst)) o σ K Kp) : GStep P ops i σ K Kp:=by
 unfold GStep
 rw [ho]
 intro m a N Q hS hN hQ
 unfold awGuard at h
 cases hg : o.guard with
 | none =>
  rw [hg] at h
  simp only at h
  rw [if_pos (by simp [Region.wanted,hg])]
  exact awStep_sound h m a N Q hS hN hQ
 | some p =>
  rw [hg] at h
  simp only at h
  cases hgv : gAt (ops.toList.map (·.dst)) σ p.1 p.2 with
  | none=>rw [hgv] at h; exact h.elim
  | some g =>
   rw [hgv] at h
   simp only at h
   have hw : Region.wanted o (yielded ops a.tmps) = g:=by
    simp only [Region.wanted,hg]
    exact gAt_sound hS hgv
   cases hp : pureOp P σ g o.op with
   | some r =>
    rw [hp] at h
    simp only at h
    obtain ⟨h1,h2,h3⟩:=h
    cases hgb : g with
    | true =>
     rw [if_pos (by rw [hw,hgb])]
     obtain ⟨v,hrun,hrep⟩:=pureOp_sound hS hgb hp (h2 hgb)
     unfold Oper.wp
     rw [hrun]
     refine hN m _ _ (.refl m) (.refl m) (hS.put (.refl m) hS.h h1 ?_) .put .put h3
     simp only [Rep]
     exact ⟨fun _=>hrep,fun h=>(by rw [hgb] at h; cases h)⟩
    | false =>
     rw [if_neg (by rw [hw,hgb]; simp)]
     refine hN m _ _ (.refl m) (.refl m) (hS.put (.refl m) hS.h h1 ?_) .put .put h3
     simp only [Rep]
     exact ⟨fun h=>(by rw [hgb] at h; cases h),fun _=>trivial⟩
   | none =>
    rw [hp] at h
    simp only at h
    rcases h with h | ⟨y,hd,h1,h2⟩
    ·cases hgb : g with
     | true =>
      rw [if_pos (by rw [hw,hgb])]
      exact awStep_sound (h.1 hgb) m a N Q hS hN hQ
     | false =>
      rw [if_neg (by rw [hw,hgb]; simp)]
      obtain ⟨h1,h2⟩:=h.2 hgb
      exact hN m _ _ (.refl m) (.refl m) (hS.put (.refl m) hS.h h1 (by simp only [Rep])) .put .put h2
    ·cases hgb : g with
     | true =>
      rw [if_pos (by rw [hw,hgb])]
      rw [hgb] at h2
      refine h1 hgb m a N Q hS (fun m' a' σ' h3 h4 h5 h6 h7 h8=>hN m' a' _ h3 h4 (Sim.opt rfl (h8 ▸ h5)) ?_ h7 h2) hQ
      subst h8
      refine ⟨by cases o.dst <;> rfl,by cases o.dst <;> rfl,by cases o.dst <;> rfl,by cases o.dst <;> rfl,fun _ h=>get_put_ne h,fun _=>by cases o.dst <;> exact ⟨rfl,rfl⟩,fun _ _ _ h=>by cases o.dst <;> exact h⟩
     | false =>
      rw [if_neg (by rw [hw,hgb]; simp)]
      rw [hgb] at h2
      exact hN m _ _ (.refl m) (.refl m) (hS.put (.refl m) hS.h hd (by simp only [Rep]; exact ⟨fun h=>(by cases h),fun _=>trivial⟩)) .put .put h2

def GAny (P : Program) (ops : Array Oper) (K : St → Prop) (Kp : AV → St → Prop) : Nat → Array Bool → St → Prop
 | 0,l,σ=>Region.ready .any ops l = [] ∧ K σ
 | f + 1,l,σ=>(Region.ready .any ops l = [] → K σ) ∧ ∀ i ∈ Region.ready .any ops l,GStep P ops i σ (GAny P ops K Kp f (l.setIfInBounds i true)) Kp

variable {K : St → Prop} {Kp : AV → St → Prop}
theorem GAny.eqv (hK : ∀ σ σ',Eqv σ σ' → K σ → K σ') : ∀ {f : Nat} {l : Array Bool} {σ σ' : St},Eqv σ σ' → GAny P ops K Kp f l σ → GAny P ops K Kp f l σ'
 | 0,_,_,_,he,h=>⟨h.1,hK _ _ he h.2⟩
 | _ + 1,_,_,_,he,h=>⟨fun h0=>hK _ _ he (h.1 h0),fun i hi=>(h.2 i hi).eqv he fun _ _ he h=>GAny.eqv hK he h⟩

theorem GAny_sound {Q : Exit → Act → World → Prop} (m0 : Mem)
  (hK : ∀ m a σ,m0.le m → Sim m a σ → K σ → Q .normal a m.w) (hKp : ∀ m a σ x v,m0.le m → Sim m a σ → Rep m 0 x v → Kp x σ → Q (.panic [{ v,recovered:=false }]) a m.w) :
  ∀ (f : Nat) (l : Array Bool) (σ : St),GAny P ops K Kp f l σ → ∀ m a,m0.le m → Sim m a σ → wpAny P .any ops Q f l a m.w
 | 0,_,σ,h,m,a,hle,hS=>⟨h.1,hK m a σ hle hS h.2⟩
 | f + 1,l,σ,h,m,a,hle,hS=>by
  refine ⟨fun h0=>hK m a σ hle hS (h.1 h0),fun i hi=>?_⟩
  have hi':=h.2 i hi
  unfold GStep at hi'
  unfold wpOp
  cases ho : ops[i]? with
  | none =>
   rw [ho] at hi'
   exact GAny_sound m0 hK hKp f _ σ hi' m a hle hS
  | some o =>
   rw [ho] at hi'
   have:=hi' m a (wpAny P .any ops Q f (l.setIfInBounds i true)) Q hS (fun m' a' σ' h1 _ h3 _ _ h6=>GAny_sound m0 hK hKp f _ σ' h6 m' a' (hle.trans h1) h3)
    (fun m' σ' x v h1 _ h3 h4 _ h6=>hKp m' a σ' x v (hle.trans h1) h3 h4 h6)
   simp only
   split
   ·rename_i hw
    rw [if_pos hw] at this
    exact .inl this
   ·rename_i hw
    rw [if_neg hw] at this
    exact this

/-! ### an operation that may be taken first -/
def TakeAt (P : Program) (ds : List (Option Tmp)) (o : Oper) (bare : Bool) (σ : St) (x : AV) : Prop :=
 dstOk σ.n o.dst = true ∧ match o.guard with
  | none=>∃ r,pureOp P (if bare = true then σ.bare else σ) true o.op = some r ∧ r.1 ∧ x = r.2
  | some p=>∃ g,gAt ds σ p.1 p.2 = some g ∧ ∃ r,pureOp P (if bare = true then σ.bare else σ) g o.op = some r ∧ (g = true → r.1) ∧ x = .opt g r.2

theorem TakeAt.guard {o : Oper} {bare : Bool} {σ : St} {x : AV} {ds : List (Option Tmp)} (h : TakeAt P ds o bare σ x) {K : St → Prop} (hk : K (σ.put o.dst x)) : awGuard P ds o σ K Kp:=by
 have hm : ∀ {g : Bool} {r : Prop × AV},pureOp P (if bare = true then σ.bare else σ) g o.op = some r → pureOp P σ g o.op = some r:=by
  intro g r h
  split at h
  ·exact pureOp_mono h
  ·exact h
 obtain ⟨hd,h⟩:=h
 unfold awGuard
 cases hg : o.guard with
 | none =>
  rw [hg] at h
  obtain ⟨r,h1,h2,rfl⟩:=h
  simp only
  unfold awStep
  rw [hm h1]
  exact ⟨hd,h2,hk⟩
 | some p =>
  rw [hg] at h
  obtain ⟨g,h0,r,h1,h2,rfl⟩:=h
  simp only
  rw [h0]
  simp only
  rw [hm h1]
  exact ⟨hd,h2,hk⟩

theorem TakeAt.has {o : Oper} {bare : Bool} {σ : St} {x : AV} {ds : List (Option Tmp)} (h : TakeAt P ds o bare σ x) {m : Mem} {a : Act} (hS : Sim m a σ) : ∃ v,Rep m 0 x v:=by
 have hm : ∀ {g : Bool} {r : Prop × AV},pureOp P (if bare = true then σ.bare else σ) g o.op = some r → pureOp P σ g o.op = some r:=by
  intro g r h
  split at h
  ·exact pureOp_mono h
  ·exact h
 obtain ⟨hd,h⟩:=h
 cases hg : o.guard with
 | none =>
  rw [hg] at h
  obtain ⟨r,h1,h2,rfl⟩:=h
  obtain ⟨v,_,hv⟩:=pureOp_sound hS rfl (hm h1) h2
  exact ⟨v,hv⟩
 | some p =>
  rw [hg] at h
  obtain ⟨g,h0,r,h1,h2,rfl⟩:=h
  cases hgb : g with
  | true =>
   subst hgb
   obtain ⟨v,_,hv⟩:=pureOp_sound hS rfl (hm h1) (h2 rfl)
   exact ⟨v,by simp only [Rep]; exact ⟨fun _=>hv,fun h=>(by cases h)⟩⟩
  | false =>
   exact ⟨undef,by simp only [Rep]; exact ⟨fun h=>(by cases h),fun _=>trivial⟩⟩

theorem op1_monoF {σ : St} {g : Bool} {x : Operand} {f f' : AV → Option (Prop × AV)} {r : Prop × AV} (h : op1 σ g x f = some r) (hf : ∀ a r,f a = some r → f' a = some r) : op1 σ g x f' = some r:=by
 unfold op1 at *
 split at h
 case h_2=>cases h
 rename_i a ha
 split at h
 case h_2=>cases h
 rename_i q hq
 simp only [hf _ _ hq]
 exact h
theorem aload_ext {hp hp' : List (Nat × ABlk)} {t : TypeId} {a : AV} {r : Prop × AV} (he : ∀ id b,get hp id = some b → get hp' id = some b) (h : aload P hp t a = some r) : aload P hp' t a = some r:=by
 unfold aload at *
 split at h
 ·cases h
 ·rename_i i hi
  cases a with
  | ptr id off =>
   simp only at h ⊢
   split at h
   ·rename_i cs hg
    rw [he _ _ hg]
    exact h
   ·rename_i T cs hg
    rw [he _ _ hg]
    exact h
   ·cases h
  | rptr id idx c =>
   simp only at h ⊢
   split at h
   ·rename_i sz es own hg
    rw [he _ _ hg]
    exact h
   ·rename_i sz es hg
    rw [he _ _ hg]
    exact h
   ·cases h
  | _=>exact h
theorem TakeAt.congr {o : Oper} {bare : Bool} {σ σ' : St} {x : AV} (h : TakeAt P (ops.toList.map (·.dst)) o bare σ x) (hn : σ'.n = σ.n) (hgl : σ'.gl = σ.gl) (hhp : bare = false → σ'.hp = σ.hp ∨ (isLoad o.op = true ∧ ∀ id b,get σ.hp id = some b → get σ'.hp id = some b))
  (henv : ∀ t ∈ o.looksAt ops,get σ'.env t = get σ.env t) : TakeAt P (ops.toList.map (·.dst)) o bare σ' x:=by
 have hev : ∀ y ∈ o.op.operands,ev σ' y = ev σ y:=by
  intro y hy
  unfold ev
  cases y with
  | tmp t=>exact henv t (List.mem_append_left _ (List.mem_filterMap.2 ⟨.tmp t,by simpa using hy,rfl⟩))
  | const v=>rfl
  | global g=>rw [hgl]
  | func f=>rfl
 have hp : ∀ g r,pureOp P (if bare = true then σ.bare else σ) g o.op = some r → pureOp P (if bare = true then σ'.bare else σ') g o.op = some r:=by
  intro g r hr
  cases hb : bare with
  | true=>rw [hb] at hr; exact (pureOp_congr (P:=P) (g:=g) (σ:=σ.bare) (σ':=σ'.bare) rfl hev).trans hr
  | false =>
   rw [hb] at hr
   rcases hhp hb with h1 | ⟨h1,h2⟩
   ·exact (pureOp_congr h1 hev).trans hr
   ·cases hop : o.op with
    | load t y =>
     rw [hop] at hr hev
     simp only [Bool.false_eq_true,if_false,pureOp] at hr ⊢
     have e:=op1_congr (g:=g) (f:=fun a=>aload P σ'.hp t a) (f':=fun a=>aload P σ'.hp t a) (hev y (by simp [Op.operands])) (fun _=>rfl)
     refine e.trans (op1_monoF hr fun a r=>aload_ext h2)
    | _=>rw [hop] at h1; cases h1
 unfold TakeAt at *
 rw [hn]
 refine ⟨h.1,?_⟩
 have h2:=h.2
 split
 ·rename_i hg
  rw [hg] at h2
  obtain ⟨r,h3,h4⟩:=h2
  exact ⟨r,hp _ _ h3,h4⟩
 ·rename_i p hg
  rw [hg] at h2
  obtain ⟨g,h0,r,h3,h4⟩:=h2
  refine ⟨g,?_,r,hp _ _ h3,h4⟩
  rw [← h0]
  unfold gAt
  split
  ·rename_i d hd
   have hdst : (ops[p.1]?).bind (·.dst) = some d:=by
    rw [List.getElem?_map] at hd
    cases ho : ops.toList[p.1]? with
    | none=>rw [ho] at hd; cases hd
    | some o' =>
     rw [ho] at hd
     have : ops[p.1]? = some o':=by rw [← ho]; simp
     rw [this]
     simpa using hd
   rw [henv d (List.mem_append_right _ (by rw [hg]; simp [hdst]))]
  ·rfl

end
end Aw

namespace Aw
open Go
section
variable {P : Program} {ops : Array Oper} {K : St → Prop} {Kp : AV → St → Prop}

theorem upon_put {o : Oper} {d : Option Tmp} {v : Value} (hne : ∀ e,d = some e → o.dst ≠ some e) {a : Act} {next N : Act → World → Prop} {Q Q' : Exit → Act → World → Prop} {r : Result Next}
  (hn : ∀ a' w,Leaves o a a' → next (a'.put d v) w → N a' w) (hQ : ∀ c w,Q (.panic c) (a.put d v) w → Q' (.panic c) a w) (hl : LetsOut Q → LetsOut Q')
  (h : o.upon P (a.put d v) next Q r) : o.upon P a N Q' r:=by
 cases r with
 | ok n w' =>
  cases n <;> simp only [Oper.upon] at h ⊢
  case value u=>exact hn _ _ .put (by rw [← Act.put_comm a v u hne]; exact h)
  case skip=>exact hn _ _ .put (by rw [← Act.put_comm a v undef hne]; exact h)
  case defer dd =>
   refine hn _ _ ?_ (by rw [← Act.put_comm _ v undef hne,← Act.put_defers]; exact h)
   intro t ht
   exact Leaves.put (a:={ a with defers:=dd :: a.defers }) t ht
  case enter f args =>
   refine Calls.mono h fun e w'' he=>?_
   cases e with
   | returned u=>exact hn _ _ .put (by rw [← Act.put_comm a v u hne]; exact he)
   | panicked c=>exact hQ _ _ he
   | outgrown=>exact hl he
  case row row args=>exact Rows.mono h fun u w'' he=>hn _ _ .put (by rw [← Act.put_comm a v u hne]; exact he)
 | halt x w' =>
  cases x <;> simp only [Oper.upon] at h ⊢
  case panic u=>exact hQ _ _ h

def insens (Kp : AV → St → Prop) : Prop:=∀ y σ1 σ2,σ2.n = σ1.n → σ2.hp = σ1.hp → σ2.nx = σ1.nx → σ2.gl = σ1.gl → σ2.np = σ1.np → σ2.df = σ1.df → Kp y σ1 → Kp y σ2

def PI (Q : AX → St → Prop) : Prop:=insens fun x σ=>Q (.panic x) σ
theorem GStep.swap {j d : Nat} {oi oj : Oper} {bare : Bool} {σ : St} {x : AV} {K' : St → Prop} (hdst : oi.dst = some d) (hself : d ∉ oi.looksAt ops) (hj : ops[j]? = some oj) (hap : oi.apart ops oj = true)
  (hsj : ∀ cs b,oj.op ≠ .select cs b) (hb : bare = false → isEff oj.op = false ∨ (isAlloc oj.op = true ∧ isLoad oi.op = true)) (hT : TakeAt P (ops.toList.map (·.dst)) oi bare σ x) (hKp : insens Kp)
  (h : GStep P ops j (σ.put oi.dst x) K' Kp) : GStep P ops j σ (fun σ''=>∃ σ',K' σ' ∧ Eqv σ' (σ''.put oi.dst x) ∧ TakeAt P (ops.toList.map (·.dst)) oi bare σ'' x) Kp:=by
 obtain ⟨h1,h2,h3⟩:=Oper.apart_spec hap
 have hdj : oj.dst ≠ some d:=h2 d hdst
 unfold GStep at *
 rw [hj] at h ⊢
 intro m a N Q hS hN hQ
 obtain ⟨v,hv⟩:=hT.has hS
 have hd : dstOk σ.n oi.dst = true:=hT.1
 have hS1 : Sim m (a.put oi.dst v) (St.put ⟨σ.n,σ.env,σ.hp,σ.nx,σ.gl,σ.np,σ.df⟩ oi.dst x):=hS.put (.refl m) hS.h hd hv
 have hS1 : Sim m (a.put oi.dst v) (σ.put oi.dst x):=hS1
 have hw : Region.wanted oj (yielded ops (a.put oi.dst v).tmps) = Region.wanted oj (yielded ops a.tmps):=wanted_put oj a oi.dst v h1
 have he : execOp (a.put oi.dst v).eval oj = execOp a.eval oj:=execOp_put oj hsj a oi.dst v h1
 -- the state behind, without what 'oi' gives
 have back : ∀ (m' : Mem) (a' : Act) (σ' : St),m.le m' → m.keeps m' → Sim m' (a'.put oi.dst v) σ' → Keeps oj (σ.put oi.dst x) σ' → Leaves oj a a' → K' σ' →
   ∃ σ'',Sim m' a' σ'' ∧ Keeps oj σ σ'' ∧ ∃ σ',K' σ' ∧ Eqv σ' (σ''.put oi.dst x) ∧ TakeAt P (ops.toList.map (·.dst)) oi bare σ'' x:=by
  intro m' a' σ' hle hk hS' hK hL hk'
  let env' : List (Nat × AV):=match get σ.env d with
   | some y=>Aw.set σ'.env d y
   | none=>del σ'.env d
  have henv : ∀ t,get env' t = if t = d then get σ.env d else get σ'.env t:=by
   intro t
   simp only [env']
   cases hy : get σ.env d with
   | some y =>
    simp only [get_set]
    by_cases e : d = t
    ·rw [if_pos e,if_pos e.symm]
    ·rw [if_neg e,if_neg (Ne.symm e)]
   | none =>
    simp only [get_del]
    by_cases e : d = t
    ·rw [if_pos e,if_pos e.symm]
    ·rw [if_neg e,if_neg (Ne.symm e)]
  have hputn : (σ.put oi.dst x).n = σ.n:=by rw [hdst] <;> rfl
  have hputgl : (σ.put oi.dst x).gl = σ.gl:=by rw [hdst] <;> rfl
  have hputnp : (σ.put oi.dst x).np = σ.np:=by rw [hdst] <;> rfl
  have hputdf : (σ.put oi.dst x).df = σ.df:=by rw [hdst] <;> rfl
  have hputhp : (σ.put oi.dst x).hp = σ.hp:=by rw [hdst] <;> rfl
  have hputnx : (σ.put oi.dst x).nx = σ.nx:=by rw [hdst] <;> rfl
  have hput : ∀ t,get (σ.put oi.dst x).env t = if t = d then some x else get σ.env t:=by
   intro t
   rw [hdst]
   simp only [St.put,get_set]
   by_cases e : d = t
   ·rw [if_pos e,if_pos e.symm]
   ·rw [if_neg e,if_neg (Ne.symm e)]
  refine ⟨⟨σ'.n,env',σ'.hp,σ'.nx,σ'.gl,σ'.np,σ'.df⟩,?_,?_,σ',hk',?_,?_⟩
  ·refine ⟨hS'.h,?_,?_,?_,hS'.gl,hS'.np⟩
   ·have:=hS'.n
    rw [hdst] at this
    simpa only [Act.put,Array.size_setIfInBounds] using this
   ·have:=hS'.defers
    rw [hdst] at this
    exact this
   ·intro t z hz
    simp only [henv] at hz
    by_cases e : t = d
    ·rw [if_pos e] at hz
     subst e
     obtain ⟨g1,g2⟩:=hS.env t z hz
     refine ⟨by show t < σ'.n; rw [hK.n,hputn]; exact g1,?_⟩
     rw [hL t hdj]
     exact Rep.mono hk 0 _ _ g2
    ·rw [if_neg e] at hz
     obtain ⟨g1,g2⟩:=hS'.env t z hz
     refine ⟨g1,?_⟩
     have : (a'.put oi.dst v).tmps.getD t undef = a'.tmps.getD t undef:=by
      rw [hdst]
      simp [Act.put,Array.getElem?_setIfInBounds_ne (Ne.symm e)]
     rw [this] at g2
     exact g2
  ·refine ⟨hK.n.trans hputn,hK.gl.trans hputgl,hK.np.trans hputnp,hK.df.trans hputdf,?_,?_,fun hA id b hg=>hK.hpA hA id b (by rw [hputhp]; exact hg)⟩
   ·intro t ht
    simp only [henv]
    by_cases e : t = d
    ·rw [if_pos e,e]
    ·rw [if_neg e,hK.env t ht,hput,if_neg e]
   ·intro hf
    obtain ⟨e1,e2⟩:=hK.hp hf
    exact ⟨e1.trans hputhp,e2.trans hputnx⟩
  ·refine ⟨by rw [hdst]; rfl,by rw [hdst]; rfl,by rw [hdst]; rfl,by rw [hdst]; rfl,by rw [hdst]; rfl,by rw [hdst]; rfl,?_⟩
   intro t
   rw [hdst]
   simp only [St.put,get_set,henv]
   by_cases e : d = t
   ·rw [if_pos e,← e,hK.env d hdj,hput,if_pos rfl]
   ·rw [if_neg e,if_neg (Ne.symm e)]
  ·refine hT.congr (hK.n.trans hputn) (hK.gl.trans hputgl) (fun hb'=>(hb hb').imp (fun h'=>(hK.hp h').1.trans hputhp) fun h'=>⟨h'.2,fun id b hg=>hK.hpA h'.1 id b (by rw [hputhp]; exact hg)⟩) ?_
   intro t ht
   have hte : t ≠ d:=fun e=>hself (e ▸ ht)
   simp only [henv]
   rw [if_neg hte,hK.env t (fun e=>h3 t e ht),hput,if_neg hte]
 have hpan : ∀ m' σ' y u,m.le m' → m.keeps m' → Sim m' (a.put oi.dst v) σ' → Rep m' 0 y u → (∀ t,get σ'.env t = get (σ.put oi.dst x).env t) → Kp y σ' → Q (.panic [{ v:=u,recovered:=false }]) a m'.w:=by
  intro m' σ' y u hle hk hS' hu _ hkp
  refine (hQ m' ⟨σ'.n,σ.env,σ'.hp,σ'.nx,σ'.gl,σ'.np,σ'.df⟩ y u hle hk ⟨hS'.h,?_,by have:=hS'.defers; rw [hdst] at this; exact this,?_,hS'.gl,hS'.np⟩ hu (fun _=>rfl) (hKp y σ' _ rfl rfl rfl rfl rfl rfl hkp))
  ·have:=hS'.n
   rw [hdst] at this
   simpa only [Act.put,Array.size_setIfInBounds] using this
  ·intro t z hz
   obtain ⟨g1,g2⟩:=hS.env t z hz
   refine ⟨?_,Rep.mono hk 0 _ _ g2⟩
   have e1:=hS'.n
   rw [hdst] at e1
   simp only [Act.put,Array.size_setIfInBounds] at e1
   show t < σ'.n
   rw [← e1,hS.n]
   exact g1
 have hgs:=h m (a.put oi.dst v)
  (fun a1 w1=>∀ a',a1 = a'.put oi.dst v → Leaves oj a a' → N a' w1)
  (fun e a1 w1=>match e with
   | .panic c=>Q (.panic c) a w1
   | e=>Q e a1 w1) hS1
  (fun m' a1 σ' hle hk hS' hK _ hk' a' ha' hL=>by
   subst ha'
   obtain ⟨σ'',g1,g2,g3⟩:=back m' a' σ' hle hk hS' hK hL hk'
   exact hN m' a' σ'' hle hk g1 g2 hL g3)
  hpan
 rw [hw] at hgs
 split
 ·rename_i hwt
  rw [if_pos hwt] at hgs
  unfold Oper.wp at hgs ⊢
  rw [he] at hgs
  refine upon_put (fun e he'=>h2 e he') (fun a' w hL hn=>hn a' rfl hL) (fun _ _ h=>h) ?_ hgs
  rintro ⟨a0,w0,hl⟩
  exact ⟨a0,w0,hl⟩
 ·rename_i hwt
  rw [if_neg hwt] at hgs
  exact hgs (a.put oj.dst undef) (Act.put_comm a v undef h2) .put

theorem GAny.take {i d : Nat} {oi : Oper} {bare : Bool} {x : AV} (hi : ops[i]? = some oi) (hdst : oi.dst = some d) (hself : d ∉ oi.looksAt ops) (hsel : Region.noSelect ops = true)
  (hK : ∀ σ σ',Eqv σ σ' → K σ → K σ') (hKp : insens Kp) :
  ∀ (f : Nat) (l : Array Bool) (σ : St),
   (∀ j oj,ops[j]? = some oj → j ≠ i → l.getD j true = false → (∀ e ∈ oj.after,Region.binds .any e = true → e.on ≠ i) → oi.apart ops oj = true ∧ (bare = false → isEff oj.op = false ∨ (isAlloc oj.op = true ∧ isLoad oi.op = true))) →
   i ∈ Region.ready .any ops l → TakeAt P (ops.toList.map (·.dst)) oi bare σ x → GAny P ops K Kp f (l.setIfInBounds i true) (σ.put oi.dst x) → GAny P ops K Kp (f + 1) l σ
 | 0,l,σ,_,hr,hT,H=>by
  refine ⟨fun h=>(by rw [h] at hr; cases hr),fun j hj=>?_⟩
  by_cases hji : j = i
  ·subst hji
   exact awGuard_sound hi (hT.guard H)
  ·have:=ready_mono hj hji
   rw [H.1] at this
   cases this
 | f + 1,l,σ,hfree,hr,hT,H=>by
  refine ⟨fun h=>(by rw [h] at hr; cases hr),fun j hj=>?_⟩
  by_cases hji : j = i
  ·subst hji
   exact awGuard_sound hi (hT.guard H)
  ·have h1:=H.2 j (ready_mono hj hji)
   obtain ⟨hjun,oj,hoj,hall⟩:=mem_ready.1 hj
   have hnot : ∀ e ∈ oj.after,Region.binds .any e = true → e.on ≠ i:=fun e he hb heq=>by
    have h1:=hall e he hb
    have h0:=(mem_ready.1 hr).1
    rw [heq] at h1
    rcases Nat.lt_or_ge i l.size with h' | h'
    ·simp [h'] at h0 h1
     rw [h0] at h1
     cases h1
    ·simp [Array.getElem?_eq_none h'] at h1
   have hfr:=hfree j oj hoj hji hjun hnot
   have h2:=GStep.swap hdst hself hoj hfr.1 (fun cs b=>Region.noSelect_spec hsel j oj cs b hoj) hfr.2 hT hKp h1
   refine h2.mono ?_
   rintro σ'' ⟨σ',g1,g2,g3⟩
   refine GAny.take hi hdst hself hsel hK hKp f (l.setIfInBounds j true) σ'' ?_ (ready_mono hr (Ne.symm hji)) g3 ?_
   ·intro k ok hk hki hun hno
    refine hfree k ok hk hki ?_ hno
    by_cases hjk : j = k
    ·subst hjk; exact hjun
    ·rw [getD_set_ne true hjk] at hun; exact hun
   ·rw [Array.setIfInBounds_comm _ _ hji]
    exact GAny.eqv hK g2 g1
end
end Aw
