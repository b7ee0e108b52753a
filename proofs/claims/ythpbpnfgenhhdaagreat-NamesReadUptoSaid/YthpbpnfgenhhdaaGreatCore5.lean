/- Rules of a calculus of walks: no condition of its own. -/
import Derived.Test.YthpbpnfgenhhdaaGreatCore4
namespace Aw
open Go

structure Eqv (σ σ' : St) : Prop where
 n : σ'.n = σ.n
 gl : σ'.gl = σ.gl
 np : σ'.np = σ.np
 hp : σ'.hp = σ.hp
 nx : σ'.nx = σ.nx
 df : σ'.df = σ.df
 env : ∀ t,get σ'.env t = get σ.env t
theorem Eqv.refl (σ : St) : Eqv σ σ:=⟨rfl,rfl,rfl,rfl,rfl,rfl,fun _=>rfl⟩
theorem Eqv.symm {σ σ' : St} (h : Eqv σ σ') : Eqv σ' σ:=⟨h.n.symm,h.gl.symm,h.np.symm,h.hp.symm,h.nx.symm,h.df.symm,fun t=>(h.env t).symm⟩
theorem Eqv.trans {σ σ' σ'' : St} (h : Eqv σ σ') (h' : Eqv σ' σ'') : Eqv σ σ'':=⟨h'.n.trans h.n,h'.gl.trans h.gl,h'.np.trans h.np,h'.hp.trans h.hp,h'.nx.trans h.nx,h'.df.trans h.df,fun t=>(h'.env t).trans (h.env t)⟩
theorem Sim.eqv {m : Mem} {a : Act} {σ σ' : St} (hS : Sim m a σ) (h : Eqv σ σ') : Sim m a σ' :=
 ⟨by rw [h.hp,h.nx]; exact hS.h,hS.n.trans h.n.symm,by rw [h.df]; exact hS.defers,fun t x ht=>by rw [h.n]; exact hS.env t x (by rw [← h.env]; exact ht),fun g x hg=>hS.gl g x (by rw [← h.gl]; exact hg),hS.np.trans h.np.symm⟩

section
variable {P : Program} {ops : Array Oper}

def GStep (P : Program) (ops : Array Oper) (i : Nat) (σ : St) (K : St → Prop) (Kp : AV → St → Prop) : Prop :=
 match ops[i]? with
 | none=>K σ
 | some o=>∀ (m : Mem) (a : Act) (N : Act → World → Prop) (Q : Exit → Act → World → Prop),Sim m a σ →
  (∀ m' a' σ',m.le m' → m.keeps m' → Sim m' a' σ' → Keeps o σ σ' → Leaves o a a' → K σ' → N a' m'.w) →
  (∀ m' σ' x v,m.le m' → m.keeps m' → Sim m' a σ' → Rep m' 0 x v → (∀ t,get σ'.env t = get σ.env t) → Kp x σ' → Q (.panic [{ v,recovered:=false }]) a m'.w) →
  if Region.wanted o (yielded ops a.tmps) = true then o.wp P a m.w N Q else N (a.put o.dst undef) m.w

theorem GStep.mono {i : Nat} {σ : St} {K K' : St → Prop} {Kp : AV → St → Prop} (h : GStep P ops i σ K Kp) (hk : ∀ σ',K σ' → K' σ') : GStep P ops i σ K' Kp:=by
 unfold GStep at *
 split at h
 ·exact hk _ h
 ·intro m a N Q hS hN hQ
  exact h m a N Q hS (fun m' a' σ' h1 h2 h3 h4 h5 h6=>hN m' a' σ' h1 h2 h3 h4 h5 (hk _ h6)) hQ
theorem GStep.eqv {i : Nat} {σ σ2 : St} {K : St → Prop} {Kp : AV → St → Prop} (h : GStep P ops i σ K Kp) (he : Eqv σ σ2) (hK : ∀ σ σ',Eqv σ σ' → K σ → K σ') : GStep P ops i σ2 K Kp:=by
 unfold GStep at *
 split at h
 ·exact hK _ _ he h
 ·intro m a N Q hS hN hQ
  refine h m a N Q (hS.eqv he.symm) (fun m' a' σ' h1 h2 h3 h4 h5 h6=>hN m' a' σ' h1 h2 h3 ⟨h4.n.trans he.n.symm,h4.gl.trans he.gl.symm,h4.np.trans he.np.symm,h4.df.trans he.df.symm,fun t ht=>(h4.env t ht).trans (he.env t).symm,fun hf=>?_,fun hA id b hg=>h4.hpA hA id b (he.hp ▸ hg)⟩ h5 h6)
   (fun m' σ' x v h1 h2 h3 h4 h5 h6=>hQ m' σ' x v h1 h2 h3 h4 (fun t=>(h5 t).trans (he.env t).symm) h6)
  obtain ⟨e1,e2⟩:=h4.hp hf
  exact ⟨e1.trans he.hp.symm,e2.trans he.nx.symm⟩

theorem awGuard_sound {i : Nat} {o : Oper} (ho : ops[i]? = some o) {σ : St} {K : St → Prop} {Kp : AV → St → Prop} (h : awGuard P (ops.toList.map (·.dst)) o σ K Kp) : GStep P ops i σ K Kp:=by
 unfold GStep
 rw [ho]
 intro m a N Q hS hN hQ
 unfold awGuard at h
 cases hg : o.guard with
 | none =>
  rw [hg] at h
  simp only at h
  rw [if_pos (by simp [Region.wanted,hg])]
  exact awStep_sound h m a N Q hS hN hQ
 | some p =>
  rw [hg] at h
  simp only at h
  cases hgv : gAt (ops.toList.map (·.dst)) σ p.1 p.2 with
  | none=>rw [hgv] at h; exact h.elim
  | some g =>
   rw [hgv] at h
   simp only at h
   have hw : Region.wanted o (yielded ops a.tmps) = g:=by
    simp only [Region.wanted,hg]
    exact gAt_sound hS hgv
   cases hp : pureOp P σ g o.op with
   | some r =>
    rw [hp] at h
    simp only at h
    obtain ⟨h1,h2,h3⟩:=h
    cases hgb : g with
    | true =>
     rw [if_pos (by rw [hw,hgb])]
     obtain ⟨v,hrun,hrep⟩:=pureOp_sound hS hgb hp (h2 hgb)
     unfold Oper.wp
     rw [hrun]
     refine hN m _ _ (.refl m) (.refl m) (hS.put (.refl m) hS.h h1 ?_) .put .put h3
     simp only [Rep]
     exact ⟨fun _=>hrep,fun h=>(by rw [hgb] at h; cases h)⟩
    | false =>
     rw [if_neg (by rw [hw,hgb]; simp)]
     refine hN m _ _ (.refl m) (.refl m) (hS.put (.refl m) hS.h h1 ?_) .put .put h3
     simp only [Rep]
     exact ⟨fun h=>(by rw [hgb] at h; cases h),fun _=>trivial⟩
   | none =>
    rw [hp] at h
    simp only at h
    rcases h with h | ⟨y,hd,h1,h2⟩
    ·cases hgb : g with
     | true =>
      rw [if_pos (by rw [hw,hgb])]
      exact awStep_sound (h.1 hgb) m a N Q hS hN hQ
     | false =>
      rw [if_neg (by rw [hw,hgb]; simp)]
      obtain ⟨h1,h2⟩:=h.2 hgb
      exact hN m _ _ (.refl m) (.refl m) (hS.put (.refl m) hS.h h1 (by simp only [Rep])) .put .put h2
    ·cases hgb : g with
     | true =>
      rw [if_pos (by rw [hw,hgb])]
      rw [hgb] at h2
      refine h1 hgb m a N Q hS (fun m' a' σ' h3 h4 h5 h6 h7 h8=>hN m' a' _ h3 h4 (Sim.opt rfl (h8 ▸ h5)) ?_ h7 h2) hQ
      subst h8
      refine ⟨by cases o.dst <;> rfl,by cases o.dst <;> rfl,by cases o.dst <;> rfl,by cases o.dst <;> rfl,fun _ h=>get_put_ne h,fun _=>by cases o.dst <;> exact ⟨rfl,rfl⟩,fun _ _ _ h=>by cases o.dst <;> exact h⟩
     | false =>
      rw [if_neg (by rw [hw,hgb]; simp)]
      rw [hgb] at h2
      exact hN m _ _ (.refl m) (.refl m) (hS.put (.refl m) hS.h hd (by simp only [Rep]; exact ⟨fun h=>(by cases h),fun _=>trivial⟩)) .put .put h2

def GAny (P : Program) (ops : Array Oper) (K : St → Prop) (Kp : AV → St → Prop) : Nat → Array Bool → St → Prop
 | 0,l,σ=>Region.ready .any ops l = [] ∧ K σ
 | f + 1,l,σ=>(Region.ready .any ops l = [] → K σ) ∧ ∀ i ∈ Region.ready .any ops l,GStep P ops i σ (GAny P ops K Kp f (l.setIfInBounds i true)) Kp

variable {K : St → Prop} {Kp : AV → St → Prop}
theorem GAny.eqv (hK : ∀ σ σ',Eqv σ σ' → K σ → K σ') : ∀ {f : Nat} {l : Array Bool} {σ σ' : St},Eqv σ σ' → GAny P ops K Kp f l σ → GAny P ops K Kp f l σ'
 | 0,_,_,_,he,h=>⟨h.1,hK _ _ he h.2⟩
 | _ + 1,_,_,_,he,h=>⟨fun h0=>hK _ _ he (h.1 h0),fun i hi=>(h.2 i hi).eqv he fun _ _ he h=>GAny.eqv hK he h⟩

theorem GAny_sound {Q : Exit → Act → World → Prop} (m0 : Mem)
  (hK : ∀ m a σ,m0.le m → Sim m a σ → K σ → Q .normal a m.w) (hKp : ∀ m a σ x v,m0.le m → Sim m a σ → Rep m 0 x v → Kp x σ → Q (.panic [{ v,recovered:=false }]) a m.w) :
  ∀ (f : Nat) (l : Array Bool) (σ : St),GAny P ops K Kp f l σ → ∀ m a,m0.le m → Sim m a σ → wpAny P .any ops Q f l a m.w
 | 0,_,σ,h,m,a,hle,hS=>⟨h.1,hK m a σ hle hS h.2⟩
 | f + 1,l,σ,h,m,a,hle,hS=>by
  refine ⟨fun h0=>hK m a σ hle hS (h.1 h0),fun i hi=>?_⟩
  have hi':=h.2 i hi
  unfold GStep at hi'
  unfold wpOp
  cases ho : ops[i]? with
  | none =>
   rw [ho] at hi'
   exact GAny_sound m0 hK hKp f _ σ hi' m a hle hS
  | some o =>
   rw [ho] at hi'
   have:=hi' m a (wpAny P .any ops Q f (l.setIfInBounds i true)) Q hS (fun m' a' σ' h1 _ h3 _ _ h6=>GAny_sound m0 hK hKp f _ σ' h6 m' a' (hle.trans h1) h3)
    (fun m' σ' x v h1 _ h3 h4 _ h6=>hKp m' a σ' x v (hle.trans h1) h3 h4 h6)
   simp only
   split
   ·rename_i hw
    rw [if_pos hw] at this
    exact .inl this
   ·rename_i hw
    rw [if_neg hw] at this
    exact this

/-! ### an operation that may be taken first -/
def TakeAt (P : Program) (ds : List (Option Tmp)) (o : Oper) (bare : Bool) (σ : St) (x : AV) : Prop :=
 dstOk σ.n o.dst = true ∧ match o.guard with
  | none=>∃ r,pureOp P (if bare = true then σ.bare else σ) true o.op = some r ∧ r.1 ∧ x = r.2
  | some p=>∃ g,gAt ds σ p.1 p.2 = some g ∧ ∃ r,pureOp P (if bare = true then σ.bare else σ) g o.op = some r ∧ (g = true → r.1) ∧ x = .opt g r.2

theorem TakeAt.guard {o : Oper} {bare : Bool} {σ : St} {x : AV} {ds : List (Option Tmp)} (h : TakeAt P ds o bare σ x) {K : St → Prop} (hk : K (σ.put o.dst x)) : awGuard P ds o σ K Kp:=by
 have hm : ∀ {g : Bool} {r : Prop × AV},pureOp P (if bare = true then σ.bare else σ) g o.op = some r → pureOp P σ g o.op = some r:=by
  intro g r h
  split at h
  ·exact pureOp_mono h
  ·exact h
 obtain ⟨hd,h⟩:=h
 unfold awGuard
 cases hg : o.guard with
 | none =>
  rw [hg] at h
  obtain ⟨r,h1,h2,rfl⟩:=h
  simp only
  unfold awStep
  rw [hm h1]
  exact ⟨hd,h2,hk⟩
 | some p =>
  rw [hg] at h
  obtain ⟨g,h0,r,h1,h2,rfl⟩:=h
  simp only
  rw [h0]
  simp only
  rw [hm h1]
  exact ⟨hd,h2,hk⟩

theorem TakeAt.has {o : Oper} {bare : Bool} {σ : St} {x : AV} {ds : List (Option Tmp)} (h : TakeAt P ds o bare σ x) {m : Mem} {a : Act} (hS : Sim m a σ) : ∃ v,Rep m 0 x v:=by
 have hm : ∀ {g : Bool} {r : Prop × AV},pureOp P (if bare = true then σ.bare else σ) g o.op = some r → pureOp P σ g o.op = some r:=by
  intro g r h
  split at h
  ·exact pureOp_mono h
  ·exact h
 obtain ⟨hd,h⟩:=h
 cases hg : o.guard with
 | none =>
  rw [hg] at h
  obtain ⟨r,h1,h2,rfl⟩:=h
  obtain ⟨v,_,hv⟩:=pureOp_sound hS rfl (hm h1) h2
  exact ⟨v,hv⟩
 | some p =>
  rw [hg] at h
  obtain ⟨g,h0,r,h1,h2,rfl⟩:=h
  cases hgb : g with
  | true =>
   subst hgb
   obtain ⟨v,_,hv⟩:=pureOp_sound hS rfl (hm h1) (h2 rfl)
   exact ⟨v,by simp only [Rep]; exact ⟨fun _=>hv,fun h=>(by cases h)⟩⟩
  | false =>
   exact ⟨undef,by simp only [Rep]; exact ⟨fun h=>(by cases h),fun _=>trivial⟩⟩

theorem op1_monoF {σ : St} {g : Bool} {x : Operand} {f f' : AV → Option (Prop × AV)} {r : Prop × AV} (h : op1 σ g x f = some r) (hf : ∀ a r,f a = some r → f' a = some r) : op1 σ g x f' = some r:=by
 unfold op1 at *
 split at h
 case h_2=>cases h
 rename_i a ha
 split at h
 case h_2=>cases h
 rename_i q hq
 simp only [hf _ _ hq]
 exact h
theorem aload_ext {hp hp' : List (Nat × ABlk)} {t : TypeId} {a : AV} {r : Prop × AV} (he : ∀ id b,get hp id = some b → get hp' id = some b) (h : aload P hp t a = some r) : aload P hp' t a = some r:=by
 unfold aload at *
 split at h
 ·cases h
 ·rename_i i hi
  cases a with
  | ptr id off =>
   simp only at h ⊢
   split at h
   ·rename_i cs hg
    rw [he _ _ hg]
    exact h
   ·cases h
  | rptr id idx c =>
   simp only at h ⊢
   split at h
   ·rename_i sz es own hg
    rw [he _ _ hg]
    exact h
   ·cases h
  | _=>exact h
theorem TakeAt.congr {o : Oper} {bare : Bool} {σ σ' : St} {x : AV} (h : TakeAt P (ops.toList.map (·.dst)) o bare σ x) (hn : σ'.n = σ.n) (hgl : σ'.gl = σ.gl) (hhp : bare = false → σ'.hp = σ.hp ∨ (isLoad o.op = true ∧ ∀ id b,get σ.hp id = some b → get σ'.hp id = some b))
  (henv : ∀ t ∈ o.looksAt ops,get σ'.env t = get σ.env t) : TakeAt P (ops.toList.map (·.dst)) o bare σ' x:=by
 have hev : ∀ y ∈ o.op.operands,ev σ' y = ev σ y:=by
  intro y hy
  unfold ev
  cases y with
  | tmp t=>exact henv t (List.mem_append_left _ (List.mem_filterMap.2 ⟨.tmp t,by simpa using hy,rfl⟩))
  | const v=>rfl
  | global g=>rw [hgl]
  | func f=>rfl
 have hp : ∀ g r,pureOp P (if bare = true then σ.bare else σ) g o.op = some r → pureOp P (if bare = true then σ'.bare else σ') g o.op = some r:=by
  intro g r hr
  cases hb : bare with
  | true=>rw [hb] at hr; exact (pureOp_congr (P:=P) (g:=g) (σ:=σ.bare) (σ':=σ'.bare) rfl hev).trans hr
  | false =>
   rw [hb] at hr
   rcases hhp hb with h1 | ⟨h1,h2⟩
   ·exact (pureOp_congr h1 hev).trans hr
   ·cases hop : o.op with
    | load t y =>
     rw [hop] at hr hev
     simp only [Bool.false_eq_true,if_false,pureOp] at hr ⊢
     have e:=op1_congr (g:=g) (f:=fun a=>aload P σ'.hp t a) (f':=fun a=>aload P σ'.hp t a) (hev y (by simp [Op.operands])) (fun _=>rfl)
     refine e.trans (op1_monoF hr fun a r=>aload_ext h2)
    | _=>rw [hop] at h1; cases h1
 unfold TakeAt at *
 rw [hn]
 refine ⟨h.1,?_⟩
 have h2:=h.2
 split
 ·rename_i hg
  rw [hg] at h2
  obtain ⟨r,h3,h4⟩:=h2
  exact ⟨r,hp _ _ h3,h4⟩
 ·rename_i p hg
  rw [hg] at h2
  obtain ⟨g,h0,r,h3,h4⟩:=h2
  refine ⟨g,?_,r,hp _ _ h3,h4⟩
  rw [← h0]
  unfold gAt
  split
  ·rename_i d hd
   have hdst : (ops[p.1]?).bind (·.dst) = some d:=by
    rw [List.getElem?_map] at hd
    cases ho : ops.toList[p.1]? with
    | none=>rw [ho] at hd; cases hd
    | some o' =>
     rw [ho] at hd
     have : ops[p.1]? = some o':=by rw [← ho]; simp
     rw [this]
     simpa using hd
   rw [henv d (List.mem_append_right _ (by rw [hg]; simp [hdst]))]
  ·rfl

end
end Aw
