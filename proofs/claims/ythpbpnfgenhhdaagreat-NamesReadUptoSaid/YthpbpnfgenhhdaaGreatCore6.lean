/- Rules of a calculus of walks: no condition of its own. -/
import Derived.Test.YthpbpnfgenhhdaaGreatCore5
namespace Aw
open Go
section
variable {P : Program} {ops : Array Oper} {K : St → Prop} {Kp : AV → St → Prop}

theorem upon_put {o : Oper} {d : Option Tmp} {v : Value} (hne : ∀ e,d = some e → o.dst ≠ some e) {a : Act} {next N : Act → World → Prop} {Q Q' : Exit → Act → World → Prop} {r : Result Next}
  (hn : ∀ a' w,Leaves o a a' → next (a'.put d v) w → N a' w) (hQ : ∀ c w,Q (.panic c) (a.put d v) w → Q' (.panic c) a w) (hl : LetsOut Q → LetsOut Q')
  (h : o.upon P (a.put d v) next Q r) : o.upon P a N Q' r:=by
 cases r with
 | ok n w' =>
  cases n <;> simp only [Oper.upon] at h ⊢
  case value u=>exact hn _ _ .put (by rw [← Act.put_comm a v u hne]; exact h)
  case skip=>exact hn _ _ .put (by rw [← Act.put_comm a v undef hne]; exact h)
  case defer dd =>
   refine hn _ _ ?_ (by rw [← Act.put_comm _ v undef hne,← Act.put_defers]; exact h)
   intro t ht
   exact Leaves.put (a:={ a with defers:=dd :: a.defers }) t ht
  case enter f args =>
   refine Calls.mono h fun e w'' he=>?_
   cases e with
   | returned u=>exact hn _ _ .put (by rw [← Act.put_comm a v u hne]; exact he)
   | panicked c=>exact hQ _ _ he
   | outgrown=>exact hl he
  case row row args=>exact Rows.mono h fun u w'' he=>hn _ _ .put (by rw [← Act.put_comm a v u hne]; exact he)
 | halt x w' =>
  cases x <;> simp only [Oper.upon] at h ⊢
  case panic u=>exact hQ _ _ h

def insens (Kp : AV → St → Prop) : Prop:=∀ y σ1 σ2,σ2.n = σ1.n → σ2.hp = σ1.hp → σ2.nx = σ1.nx → σ2.gl = σ1.gl → σ2.np = σ1.np → σ2.df = σ1.df → Kp y σ1 → Kp y σ2

def PI (Q : AX → St → Prop) : Prop:=insens fun x σ=>Q (.panic x) σ
theorem GStep.swap {j d : Nat} {oi oj : Oper} {bare : Bool} {σ : St} {x : AV} {K' : St → Prop} (hdst : oi.dst = some d) (hself : d ∉ oi.looksAt ops) (hj : ops[j]? = some oj) (hap : oi.apart ops oj = true)
  (hsj : ∀ cs b,oj.op ≠ .select cs b) (hb : bare = false → isEff oj.op = false ∨ (isAlloc oj.op = true ∧ isLoad oi.op = true)) (hT : TakeAt P (ops.toList.map (·.dst)) oi bare σ x) (hKp : insens Kp)
  (h : GStep P ops j (σ.put oi.dst x) K' Kp) : GStep P ops j σ (fun σ''=>∃ σ',K' σ' ∧ Eqv σ' (σ''.put oi.dst x) ∧ TakeAt P (ops.toList.map (·.dst)) oi bare σ'' x) Kp:=by
 obtain ⟨h1,h2,h3⟩:=Oper.apart_spec hap
 have hdj : oj.dst ≠ some d:=h2 d hdst
 unfold GStep at *
 rw [hj] at h ⊢
 intro m a N Q hS hN hQ
 obtain ⟨v,hv⟩:=hT.has hS
 have hd : dstOk σ.n oi.dst = true:=hT.1
 have hS1 : Sim m (a.put oi.dst v) (St.put ⟨σ.n,σ.env,σ.hp,σ.nx,σ.gl,σ.np,σ.df⟩ oi.dst x):=hS.put (.refl m) hS.h hd hv
 have hS1 : Sim m (a.put oi.dst v) (σ.put oi.dst x):=hS1
 have hw : Region.wanted oj (yielded ops (a.put oi.dst v).tmps) = Region.wanted oj (yielded ops a.tmps):=wanted_put oj a oi.dst v h1
 have he : execOp (a.put oi.dst v).eval oj = execOp a.eval oj:=execOp_put oj hsj a oi.dst v h1
 -- the state behind, without what 'oi' gives
 have back : ∀ (m' : Mem) (a' : Act) (σ' : St),m.le m' → m.keeps m' → Sim m' (a'.put oi.dst v) σ' → Keeps oj (σ.put oi.dst x) σ' → Leaves oj a a' → K' σ' →
   ∃ σ'',Sim m' a' σ'' ∧ Keeps oj σ σ'' ∧ ∃ σ',K' σ' ∧ Eqv σ' (σ''.put oi.dst x) ∧ TakeAt P (ops.toList.map (·.dst)) oi bare σ'' x:=by
  intro m' a' σ' hle hk hS' hK hL hk'
  let env' : List (Nat × AV):=match get σ.env d with
   | some y=>Aw.set σ'.env d y
   | none=>del σ'.env d
  have henv : ∀ t,get env' t = if t = d then get σ.env d else get σ'.env t:=by
   intro t
   simp only [env']
   cases hy : get σ.env d with
   | some y =>
    simp only [get_set]
    by_cases e : d = t
    ·rw [if_pos e,if_pos e.symm]
    ·rw [if_neg e,if_neg (Ne.symm e)]
   | none =>
    simp only [get_del]
    by_cases e : d = t
    ·rw [if_pos e,if_pos e.symm]
    ·rw [if_neg e,if_neg (Ne.symm e)]
  have hputn : (σ.put oi.dst x).n = σ.n:=by rw [hdst] <;> rfl
  have hputgl : (σ.put oi.dst x).gl = σ.gl:=by rw [hdst] <;> rfl
  have hputnp : (σ.put oi.dst x).np = σ.np:=by rw [hdst] <;> rfl
  have hputdf : (σ.put oi.dst x).df = σ.df:=by rw [hdst] <;> rfl
  have hputhp : (σ.put oi.dst x).hp = σ.hp:=by rw [hdst] <;> rfl
  have hputnx : (σ.put oi.dst x).nx = σ.nx:=by rw [hdst] <;> rfl
  have hput : ∀ t,get (σ.put oi.dst x).env t = if t = d then some x else get σ.env t:=by
   intro t
   rw [hdst]
   simp only [St.put,get_set]
   by_cases e : d = t
   ·rw [if_pos e,if_pos e.symm]
   ·rw [if_neg e,if_neg (Ne.symm e)]
  refine ⟨⟨σ'.n,env',σ'.hp,σ'.nx,σ'.gl,σ'.np,σ'.df⟩,?_,?_,σ',hk',?_,?_⟩
  ·refine ⟨hS'.h,?_,?_,?_,hS'.gl,hS'.np⟩
   ·have:=hS'.n
    rw [hdst] at this
    simpa only [Act.put,Array.size_setIfInBounds] using this
   ·have:=hS'.defers
    rw [hdst] at this
    exact this
   ·intro t z hz
    simp only [henv] at hz
    by_cases e : t = d
    ·rw [if_pos e] at hz
     subst e
     obtain ⟨g1,g2⟩:=hS.env t z hz
     refine ⟨by show t < σ'.n; rw [hK.n,hputn]; exact g1,?_⟩
     rw [hL t hdj]
     exact Rep.mono hk 0 _ _ g2
    ·rw [if_neg e] at hz
     obtain ⟨g1,g2⟩:=hS'.env t z hz
     refine ⟨g1,?_⟩
     have : (a'.put oi.dst v).tmps.getD t undef = a'.tmps.getD t undef:=by
      rw [hdst]
      simp [Act.put,Array.getElem?_setIfInBounds_ne (Ne.symm e)]
     rw [this] at g2
     exact g2
  ·refine ⟨hK.n.trans hputn,hK.gl.trans hputgl,hK.np.trans hputnp,hK.df.trans hputdf,?_,?_,fun hA id b hg=>hK.hpA hA id b (by rw [hputhp]; exact hg)⟩
   ·intro t ht
    simp only [henv]
    by_cases e : t = d
    ·rw [if_pos e,e]
    ·rw [if_neg e,hK.env t ht,hput,if_neg e]
   ·intro hf
    obtain ⟨e1,e2⟩:=hK.hp hf
    exact ⟨e1.trans hputhp,e2.trans hputnx⟩
  ·refine ⟨by rw [hdst]; rfl,by rw [hdst]; rfl,by rw [hdst]; rfl,by rw [hdst]; rfl,by rw [hdst]; rfl,by rw [hdst]; rfl,?_⟩
   intro t
   rw [hdst]
   simp only [St.put,get_set,henv]
   by_cases e : d = t
   ·rw [if_pos e,← e,hK.env d hdj,hput,if_pos rfl]
   ·rw [if_neg e,if_neg (Ne.symm e)]
  ·refine hT.congr (hK.n.trans hputn) (hK.gl.trans hputgl) (fun hb'=>(hb hb').imp (fun h'=>(hK.hp h').1.trans hputhp) fun h'=>⟨h'.2,fun id b hg=>hK.hpA h'.1 id b (by rw [hputhp]; exact hg)⟩) ?_
   intro t ht
   have hte : t ≠ d:=fun e=>hself (e ▸ ht)
   simp only [henv]
   rw [if_neg hte,hK.env t (fun e=>h3 t e ht),hput,if_neg hte]
 have hpan : ∀ m' σ' y u,m.le m' → m.keeps m' → Sim m' (a.put oi.dst v) σ' → Rep m' 0 y u → (∀ t,get σ'.env t = get (σ.put oi.dst x).env t) → Kp y σ' → Q (.panic [{ v:=u,recovered:=false }]) a m'.w:=by
  intro m' σ' y u hle hk hS' hu _ hkp
  refine (hQ m' ⟨σ'.n,σ.env,σ'.hp,σ'.nx,σ'.gl,σ'.np,σ'.df⟩ y u hle hk ⟨hS'.h,?_,by have:=hS'.defers; rw [hdst] at this; exact this,?_,hS'.gl,hS'.np⟩ hu (fun _=>rfl) (hKp y σ' _ rfl rfl rfl rfl rfl rfl hkp))
  ·have:=hS'.n
   rw [hdst] at this
   simpa only [Act.put,Array.size_setIfInBounds] using this
  ·intro t z hz
   obtain ⟨g1,g2⟩:=hS.env t z hz
   refine ⟨?_,Rep.mono hk 0 _ _ g2⟩
   have e1:=hS'.n
   rw [hdst] at e1
   simp only [Act.put,Array.size_setIfInBounds] at e1
   show t < σ'.n
   rw [← e1,hS.n]
   exact g1
 have hgs:=h m (a.put oi.dst v)
  (fun a1 w1=>∀ a',a1 = a'.put oi.dst v → Leaves oj a a' → N a' w1)
  (fun e a1 w1=>match e with
   | .panic c=>Q (.panic c) a w1
   | e=>Q e a1 w1) hS1
  (fun m' a1 σ' hle hk hS' hK _ hk' a' ha' hL=>by
   subst ha'
   obtain ⟨σ'',g1,g2,g3⟩:=back m' a' σ' hle hk hS' hK hL hk'
   exact hN m' a' σ'' hle hk g1 g2 hL g3)
  hpan
 rw [hw] at hgs
 split
 ·rename_i hwt
  rw [if_pos hwt] at hgs
  unfold Oper.wp at hgs ⊢
  rw [he] at hgs
  refine upon_put (fun e he'=>h2 e he') (fun a' w hL hn=>hn a' rfl hL) (fun _ _ h=>h) ?_ hgs
  rintro ⟨a0,w0,hl⟩
  exact ⟨a0,w0,hl⟩
 ·rename_i hwt
  rw [if_neg hwt] at hgs
  exact hgs (a.put oj.dst undef) (Act.put_comm a v undef h2) .put

theorem GAny.take {i d : Nat} {oi : Oper} {bare : Bool} {x : AV} (hi : ops[i]? = some oi) (hdst : oi.dst = some d) (hself : d ∉ oi.looksAt ops) (hsel : Region.noSelect ops = true)
  (hK : ∀ σ σ',Eqv σ σ' → K σ → K σ') (hKp : insens Kp) :
  ∀ (f : Nat) (l : Array Bool) (σ : St),
   (∀ j oj,ops[j]? = some oj → j ≠ i → l.getD j true = false → (∀ e ∈ oj.after,Region.binds .any e = true → e.on ≠ i) → oi.apart ops oj = true ∧ (bare = false → isEff oj.op = false ∨ (isAlloc oj.op = true ∧ isLoad oi.op = true))) →
   i ∈ Region.ready .any ops l → TakeAt P (ops.toList.map (·.dst)) oi bare σ x → GAny P ops K Kp f (l.setIfInBounds i true) (σ.put oi.dst x) → GAny P ops K Kp (f + 1) l σ
 | 0,l,σ,_,hr,hT,H=>by
  refine ⟨fun h=>(by rw [h] at hr; cases hr),fun j hj=>?_⟩
  by_cases hji : j = i
  ·subst hji
   exact awGuard_sound hi (hT.guard H)
  ·have:=ready_mono hj hji
   rw [H.1] at this
   cases this
 | f + 1,l,σ,hfree,hr,hT,H=>by
  refine ⟨fun h=>(by rw [h] at hr; cases hr),fun j hj=>?_⟩
  by_cases hji : j = i
  ·subst hji
   exact awGuard_sound hi (hT.guard H)
  ·have h1:=H.2 j (ready_mono hj hji)
   obtain ⟨hjun,oj,hoj,hall⟩:=mem_ready.1 hj
   have hnot : ∀ e ∈ oj.after,Region.binds .any e = true → e.on ≠ i:=fun e he hb heq=>by
    have h1:=hall e he hb
    have h0:=(mem_ready.1 hr).1
    rw [heq] at h1
    rcases Nat.lt_or_ge i l.size with h' | h'
    ·simp [h'] at h0 h1
     rw [h0] at h1
     cases h1
    ·simp [Array.getElem?_eq_none h'] at h1
   have hfr:=hfree j oj hoj hji hjun hnot
   have h2:=GStep.swap hdst hself hoj hfr.1 (fun cs b=>Region.noSelect_spec hsel j oj cs b hoj) hfr.2 hT hKp h1
   refine h2.mono ?_
   rintro σ'' ⟨σ',g1,g2,g3⟩
   refine GAny.take hi hdst hself hsel hK hKp f (l.setIfInBounds j true) σ'' ?_ (ready_mono hr (Ne.symm hji)) g3 ?_
   ·intro k ok hk hki hun hno
    refine hfree k ok hk hki ?_ hno
    by_cases hjk : j = k
    ·subst hjk; exact hjun
    ·rw [getD_set_ne true hjk] at hun; exact hun
   ·rw [Array.setIfInBounds_comm _ _ hji]
    exact GAny.eqv hK g2 g1
end
end Aw
