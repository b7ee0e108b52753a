/- Rules of a calculus of walks: no condition of its own. -/
import Derived.Test.YtboaclfnjdhcpaaDoorCore14
namespace Aw
open Go
theorem AW.vw {P : Program} {σ : St} {c : Code} {Q : AX → St → Prop} (l : List Nat) (env' : List (Nat × AV)) (hp' : List (Nat × ABlk)) (k : AW P c ⟨σ.n,env',hp',l.length,σ.gl,σ.np,σ.df⟩ Q) (hdf : σ.df = renDf (pick l σ.nx) σ.df:=by exact rfl)
  (hpre : ∀ i,i < σ.np → nth l i = some i:=by intro i hi; (try dsimp only at hi); rcases i with _ | _ | _ | i <;> first | rfl | omega) (hnd : l.Nodup:=by decide)
  (henv : viewEnv (pick l σ.nx) σ.env env':=by (try dsimp only) <;> (try (simp only [go_sem,seval]; iterate 2 try (simp (disch:=omega) only [zq]; try simp only [go_sem,seval]))) <;> (try (and_intros <;> first | exact Less.refl _ | trivial | (refine Less.int ?_; omega) | (refine Less.row ?_; first | omega | (simp; done) | (simp; omega)) | (refine Less.of_eq ?_; simp; done)))) (hhp : viewHp (pick l σ.nx) l.length σ.hp hp':=by (try dsimp only) <;> (try (simp only [go_sem,seval]; iterate 2 try (simp (disch:=omega) only [zq]; try simp only [go_sem,seval]))) <;> (try (first | rfl | (and_intros <;> first | rfl | trivial)))) : AW P c σ Q :=
 AW.pre (σ':=⟨σ.n,env',hp',l.length,σ.gl,σ.np,σ.df⟩) (St.le.view l rfl rfl rfl hdf rfl hpre hnd henv hhp) k
end Aw
namespace Aw
attribute [simp] nth
end Aw

namespace Aw
open Go
theorem get_keepE (L : List Nat) (env : List (Nat × AV)) (t : Nat) (x : AV) (h : get (keepE L env) t = some x) : t ∈ L ∧ get env t = some x:=by
 induction L with
 | nil=>simp [keepE,get] at h
 | cons u r ih =>
  simp only [keepE] at h
  split at h
  ·rename_i y hy
   simp only [get] at h
   split at h
   ·rename_i e
    subst e
    injection h with h
    subst h
    exact ⟨by simp,hy⟩
   ·have:=ih h
    exact ⟨by simp [this.1],this.2⟩
  ·have:=ih h
   exact ⟨by simp [this.1],this.2⟩
structure Base (σ σ' : St) : Prop where
 n : σ'.n = σ.n
 hp : σ'.hp = σ.hp
 nx : σ'.nx = σ.nx
 gl : σ'.gl = σ.gl
 np : σ'.np = σ.np
 df : σ'.df = σ.df
theorem Base.refl (σ : St) : Base σ σ:=⟨rfl,rfl,rfl,rfl,rfl,rfl⟩
theorem Base.put (σ : St) (d : Option Tmp) (x : AV) : Base σ (σ.put d x):=by cases d <;> exact ⟨rfl,rfl,rfl,rfl,rfl,rfl⟩
theorem Base.trans {σ σ' σ'' : St} (h : Base σ σ') (h' : Base σ' σ'') : Base σ σ'':=⟨h'.n.trans h.n,h'.hp.trans h.hp,h'.nx.trans h.nx,h'.gl.trans h.gl,h'.np.trans h.np,h'.df.trans h.df⟩
theorem Sim.fewer {m : Mem} {a : Act} {σ σr : St} (hS : Sim m a σ) (hb : Base σ σr) (he : ∀ t x,get σr.env t = some x → get σ.env t = some x) : Sim m a σr :=
 ⟨by rw [hb.hp,hb.nx]; exact hS.h,by rw [hb.n]; exact hS.n,by rw [hb.df]; exact hS.defers,fun t x h=>by rw [hb.n]; exact hS.env t x (he t x h),fun g x h=>hS.gl g x (by rw [← hb.gl]; exact h),by rw [hb.np]; exact hS.np⟩
section
variable {P : Program} {ops : Array Oper}
def FnAt (P : Program) (ops : Array Oper) (i : Nat) (o : Oper) (σ : St) (X : AV) : Prop :=
 ∃ σr : St,Base σ σr ∧ (∀ t x,get σr.env t = some x → t ∈ o.looksAt ops ∧ get σ.env t = some x) ∧
  GStep P ops i σr (fun σ'=>σ'.hp = σ.hp ∧ σ'.nx = σ.nx ∧ ∀ d,o.dst = some d → get σ'.env d = some X) (fun _ _=>False)
theorem FnAt.step {i : Nat} {o : Oper} {σ σ2 : St} {X : AV} (ho : ops[i]? = some o) (h : FnAt P ops i o σ X) (hb : Base σ σ2) (he : ∀ t ∈ o.looksAt ops,∀ x,get σ.env t = some x → get σ2.env t = some x)
  {K : St → Prop} {Kp : AV → St → Prop} (hK : K (σ2.put o.dst X)) : GStep P ops i σ2 K Kp:=by
 obtain ⟨σr,hr,hre,hg⟩:=h
 unfold GStep at *
 rw [ho] at hg ⊢
 intro m a N Q hS hN hQ
 have hbr : Base σ2 σr:=⟨hr.n.trans hb.n.symm,hr.hp.trans hb.hp.symm,hr.nx.trans hb.nx.symm,hr.gl.trans hb.gl.symm,hr.np.trans hb.np.symm,hr.df.trans hb.df.symm⟩
 have hSr : Sim m a σr:=hS.fewer hbr fun t x ht=>he t (hre t x ht).1 x (hre t x ht).2
 refine hg m a N Q hSr ?_ (fun _ _ _ _ _ _ _ _ _ h=>h.elim)
 rintro m' a' σ' hle hk hS' hK' hL ⟨e1,e2,e3⟩
 refine hN m' a' (σ2.put o.dst X) hle hk ?_ Keeps.put hL hK
 have hbp:=Base.put σ2 o.dst X
 refine ⟨?_,?_,?_,?_,?_,?_⟩
 ·rw [hbp.hp,hbp.nx,hb.hp,hb.nx,← e1,← e2]; exact hS'.h
 ·rw [hbp.n,hb.n,← hr.n,← hK'.n]; exact hS'.n
 ·rw [hbp.df,hb.df,← hr.df,← hK'.df]; exact hS'.defers
 ·intro t x ht
  rw [hbp.n]
  by_cases hd : o.dst = some t
  ·rw [hd] at ht
   simp only [St.put,get_set,if_true] at ht
   injection ht with ht
   subst ht
   obtain ⟨g1,g2⟩:=hS'.env t _ (e3 t hd)
   exact ⟨by rw [hb.n,← hr.n,← hK'.n]; exact g1,g2⟩
  ·rw [get_put_ne hd] at ht
   obtain ⟨g1,g2⟩:=hS.env t x ht
   refine ⟨g1,?_⟩
   rw [hL t hd]
   exact Rep.mono hk 0 _ _ g2
 ·intro g x hg'
  rw [hbp.gl,hb.gl,← hr.gl,← hK'.gl] at hg'
  exact hS'.gl g x hg'
 ·rw [hbp.np,hb.np,← hr.np,← hK'.np]; exact hS'.np

/-! ### the order does not matter -/
def binds (o : Oper) : List Nat:=(o.after.toList.filter fun e=>Region.binds .any e).map (·.on)
def bindsAt (ops : Array Oper) (j : Nat) : List Nat :=
 match ops[j]? with
 | some o=>binds o
 | none=>[]
def reachW (ops : Array Oper) : Nat → List Nat → List Nat → List Nat
 | 0,_,seen=>seen
 | _ + 1,[],seen=>seen
 | f + 1,q :: todo,seen=>reachW ops f (((bindsAt ops q).filter fun k=>!seen.contains k) ++ todo) (((bindsAt ops q).filter fun k=>!seen.contains k) ++ seen)
def reach (ops : Array Oper) (f j : Nat) : List Nat:=reachW ops (f * 40) (bindsAt ops j) (bindsAt ops j)
def dstAt (ops : Array Oper) (j : Nat) : Option Tmp:=(ops[j]?).bind (·.dst)
def funStep (ops : Array Oper) (done : List Nat) (i : Nat) (rest : List Nat) : Bool :=
 match ops[i]? with
 | none=>false
 | some o=>match o.dst with
  | none=>false
  | some d=>(binds o).all (done.contains ·) && !(done.contains i) && done.all (fun k=>dstAt ops k != some d) &&
    (o.looksAt ops).all fun t=>(i :: rest).all (fun k=>dstAt ops k != some t) && done.all fun k=>dstAt ops k != some t || (binds o).contains k
def funOk (ops : Array Oper) : List Nat → List Nat → Bool
 | done,[]=>(List.range ops.size).all fun j=>done.contains j || done.all ((reach ops 6 j).contains ·)
 | done,i :: r=>funStep ops done i r && funOk ops (done ++ [i]) r
def awFun (P : Program) (ops : Array Oper) (K : St → Prop) : List Nat → St → Prop
 | [],σ=>K σ
 | i :: r,σ=>∃ o X,ops[i]? = some o ∧ FnAt P ops i o σ X ∧ awFun P ops K r (σ.put o.dst X)

structure Done (ops : Array Oper) (S : List Nat) (X : Nat → AV) (σ0 : St) (l : Array Bool) (σ : St) : Prop where
 size : l.size = ops.size
 sub : ∀ i,l.getD i false = true → i ∈ S
 down : ∀ i,l.getD i false = true → ∀ k ∈ bindsAt ops i,l.getD k false = true
 base : Base σ0 σ
 env : ∀ t,(∃ i ∈ S,l.getD i false = true ∧ dstAt ops i = some t ∧ get σ.env t = some (X i)) ∨ ((∀ i ∈ S,l.getD i false = true → dstAt ops i ≠ some t) ∧ get σ.env t = get σ0.env t)
structure FunFacts (P : Program) (ops : Array Oper) (S : List Nat) (X : Nat → AV) (σ0 : St) : Prop where
 nodup : S.Nodup
 dist : ∀ i ∈ S,∀ j ∈ S,dstAt ops i = dstAt ops j → i = j
 isop : ∀ i ∈ S,∃ o d,ops[i]? = some o ∧ o.dst = some d
 early : ∀ (A : List Nat) (i : Nat) (B : List Nat),S = A ++ i :: B → ∀ k ∈ bindsAt ops i,k ∈ A
 tail : ∀ j,j < ops.size → j ∉ S → ∀ i ∈ S,i ∈ reach ops 6 j
 step : ∀ i ∈ S,∃ o σi,ops[i]? = some o ∧ Base σ0 σi ∧ FnAt P ops i o σi (X i) ∧ ∀ t ∈ o.looksAt ops,∀ x,get σi.env t = some x →
  (∃ k ∈ S,dstAt ops k = some t ∧ k ∈ binds o ∧ X k = x) ∨ ((∀ k ∈ S,dstAt ops k ≠ some t) ∧ get σ0.env t = some x)

theorem mem_binds {o : Oper} {k : Nat} : k ∈ binds o ↔ ∃ e ∈ o.after,Region.binds .any e = true ∧ e.on = k:=by
 simp only [binds,List.mem_map,List.mem_filter,Array.mem_toList_iff,and_assoc]
theorem ready_iff {l : Array Bool} {j : Nat} : j ∈ Region.ready .any ops l ↔ l.getD j true = false ∧ ∃ o,ops[j]? = some o ∧ ∀ k ∈ binds o,l.getD k false = true:=by
 rw [mem_ready]
 constructor
 ·rintro ⟨h1,o,h2,h3⟩
  exact ⟨h1,o,h2,fun k hk=>by obtain ⟨e,he,hb,rfl⟩:=mem_binds.1 hk; exact h3 e he hb⟩
 ·rintro ⟨h1,o,h2,h3⟩
  exact ⟨h1,o,h2,fun e he hb=>h3 _ (mem_binds.2 ⟨e,he,hb,rfl⟩)⟩
theorem getD_tf {l : Array Bool} {j : Nat} (h : l.getD j true = false) : j < l.size ∧ l.getD j false = false:=by
 rcases Nat.lt_or_ge j l.size with hj | hj
 ·simp only [Array.getD,hj,dif_pos] at h ⊢
  exact ⟨trivial,h⟩
 ·simp [Array.getD,Nat.not_lt.2 hj] at h
theorem getD_ft {l : Array Bool} {j : Nat} (hj : j < l.size) (h : l.getD j false = false) : l.getD j true = false:=by
 simp only [Array.getD,hj,dif_pos] at h ⊢
 exact h
theorem getD_setB {l : Array Bool} {i j : Nat} (hi : i < l.size) : (l.setIfInBounds i true).getD j false = if i = j then true else l.getD j false:=by
 simp only [Array.getD_eq_getD_getElem?,Array.getElem?_setIfInBounds]
 split
 ·rename_i e; subst e; simp
 ·rfl
theorem reachW_listed {l : Array Bool} (hd : ∀ i,l.getD i false = true → ∀ k ∈ bindsAt ops i,l.getD k false = true) : ∀ (f : Nat) (todo seen : List Nat),(∀ k ∈ todo,l.getD k false = true) → (∀ k ∈ seen,l.getD k false = true) → ∀ k ∈ reachW ops f todo seen,l.getD k false = true
 | 0,todo,seen,_,h,k,hk=>h k hk
 | _ + 1,[],seen,_,h,k,hk=>h k hk
 | f + 1,q :: todo,seen,ht,h,k,hk=>by
  simp only [reachW] at hk
  have hq:=hd q (ht q (List.mem_cons_self ..))
  have hn : ∀ k ∈ (bindsAt ops q).filter fun k=>!seen.contains k,l.getD k false = true:=fun k hk=>hq k (List.mem_filter.1 hk).1
  refine reachW_listed hd f _ _ (fun k hk=>?_) (fun k hk=>?_) k hk
  ·rcases List.mem_append.1 hk with hk | hk
   ·exact hn k hk
   ·exact ht k (List.mem_cons_of_mem _ hk)
  ·rcases List.mem_append.1 hk with hk | hk
   ·exact hn k hk
   ·exact h k hk
theorem reach_listed {l : Array Bool} (hd : ∀ i,l.getD i false = true → ∀ k ∈ bindsAt ops i,l.getD k false = true) (f j : Nat) (h : ∀ k ∈ bindsAt ops j,l.getD k false = true) : ∀ k ∈ reach ops f j,l.getD k false = true :=
 reachW_listed hd _ _ _ h h
def unl (l : Array Bool) (S : List Nat) : Nat:=(S.filter fun i=>!l.getD i false).length
theorem unl_zero {l : Array Bool} {S : List Nat} (h : unl l S = 0) (i : Nat) (hi : i ∈ S) : l.getD i false = true:=by
 have:=List.eq_nil_of_length_eq_zero h
 rw [List.filter_eq_nil_iff] at this
 have:=this i hi
 simpa using this
theorem first_unl {l : Array Bool} : ∀ {S : List Nat},unl l S ≠ 0 → ∃ A i B,S = A ++ i :: B ∧ l.getD i false = false ∧ ∀ k ∈ A,l.getD k false = true
 | [],h=>by simp [unl] at h
 | i :: r,h=>by
  cases hi : l.getD i false with
  | false=>exact ⟨[],i,r,rfl,hi,by simp⟩
  | true =>
   have : unl l r ≠ 0:=by
    intro e
    apply h
    simp only [unl,List.filter_cons,hi] at e ⊢
    simpa using e
   obtain ⟨A,j,B,rfl,h1,h2⟩:=first_unl this
   exact ⟨i :: A,j,B,rfl,h1,by
    intro k hk
    rcases List.mem_cons.1 hk with rfl | hk
    ·exact hi
    ·exact h2 k hk⟩
theorem unl_set {l : Array Bool} {j : Nat} (hj : j < l.size) : ∀ {S : List Nat},S.Nodup → j ∈ S → l.getD j false = false → unl l S = unl (l.setIfInBounds j true) S + 1
 | [],_,h,_=>by simp at h
 | i :: r,hn,hm,hu=>by
  rw [List.nodup_cons] at hn
  by_cases e : i = j
  ·subst e
   have hr : (r.filter fun k=>!(l.setIfInBounds i true).getD k false) = r.filter fun k=>!l.getD k false:=by
    apply List.filter_congr
    intro k hk
    rw [getD_setB hj,if_neg (fun e=>hn.1 (by rw [e]; exact hk))]
   have hset : (l.setIfInBounds i true).getD i false = true:=by rw [getD_setB hj,if_pos rfl]
   rw [unl,unl,List.filter_cons,List.filter_cons,hr,hu,hset]
   simp
  ·have hmr : j ∈ r:=by
    rcases List.mem_cons.1 hm with h | h
    ·exact absurd h.symm e
    ·exact h
   have ih:=unl_set hj hn.2 hmr hu
   simp only [unl,List.filter_cons,getD_setB hj] at ih ⊢
   rw [if_neg (Ne.symm e)]
   split
   ·simp only [List.length_cons]; omega
   ·exact ih
theorem fun_game {K : St → Prop} {Kp : AV → St → Prop} {S : List Nat} {X : Nat → AV} {σ0 : St} (F : FunFacts P ops S X σ0) {f' : Nat}
  (hend : ∀ l σ,Done ops S X σ0 l σ → unl l S = 0 → GAny P ops K Kp f' l σ) : ∀ (c : Nat) (l : Array Bool) (σ : St),unl l S = c → Done ops S X σ0 l σ → GAny P ops K Kp (c + f') l σ
 | 0,l,σ,hc,hD=>by rw [Nat.zero_add]; exact hend l σ hD hc
 | c + 1,l,σ,hc,hD=>by
  rw [show c + 1 + f' = (c + f') + 1 from by omega]
  refine ⟨fun h0=>?_,fun j hj=>?_⟩
  ·exfalso
   obtain ⟨A,i,B,hS,h1,h2⟩:=first_unl (l:=l) (S:=S) (by omega)
   obtain ⟨o,d,ho,_⟩:=F.isop i (by rw [hS]; simp)
   have hil : i < l.size:=by
    rw [hD.size]
    exact (Array.getElem?_eq_some_iff.1 ho).1
   have : i ∈ Region.ready .any ops l:=ready_iff.2 ⟨getD_ft hil h1,o,ho,fun k hk=>h2 k (F.early A i B hS k (by unfold bindsAt; rw [ho]; exact hk))⟩
   rw [h0] at this
   cases this
  ·obtain ⟨hu,o',ho',hk'⟩:=ready_iff.1 hj
   obtain ⟨hjl,hjf⟩:=getD_tf hu
   have hjS : j ∈ S:=by
    by_cases hm : j ∈ S
    ·exact hm
    ·exfalso
     have hall : ∀ i ∈ S,l.getD i false = true:=fun i hi=>reach_listed hD.down 6 j (by unfold bindsAt; rw [ho']; exact hk') i (F.tail j (by rw [← hD.size]; exact hjl) hm i hi)
     obtain ⟨A,i,B,hS,h1,_⟩:=first_unl (l:=l) (S:=S) (by omega)
     rw [hall i (by rw [hS]; simp)] at h1
     cases h1
   obtain ⟨o,σi,ho,hbi,hF,hlook⟩:=F.step j hjS
   rw [ho] at ho'
   injection ho' with ho'
   subst ho'
   have hbase : Base σi σ:=⟨hD.base.n.trans hbi.n.symm,hD.base.hp.trans hbi.hp.symm,hD.base.nx.trans hbi.nx.symm,hD.base.gl.trans hbi.gl.symm,hD.base.np.trans hbi.np.symm,hD.base.df.trans hbi.df.symm⟩
   refine hF.step ho hbase ?_ ?_
   ·intro t ht x hx
    rcases hlook t ht x hx with ⟨k,hkS,hkd,hkb,rfl⟩ | ⟨hno,hx0⟩
    ·rcases hD.env t with ⟨i,hiS,_,hid,hiv⟩ | ⟨hn,_⟩
     ·rw [F.dist k hkS i hiS (by rw [hkd,hid])]
      exact hiv
     ·exact absurd hkd (hn k hkS (hk' k hkb))
    ·rcases hD.env t with ⟨i,hiS,_,hid,_⟩ | ⟨_,hv⟩
     ·exact absurd hid (hno i hiS)
     ·rw [hv]; exact hx0
   ·have hdj : dstAt ops j = o.dst:=by unfold dstAt; rw [ho] <;> rfl
    obtain ⟨_,d,ho2,hod⟩:=F.isop j hjS
    rw [ho] at ho2
    injection ho2 with ho2
    subst ho2
    refine fun_game F hend c _ _ (by have:=unl_set hjl F.nodup hjS hjf; omega) ⟨by simpa using hD.size,?_,?_,hD.base.trans (Base.put _ _ _),?_⟩
    ·intro i hi
     rw [getD_setB hjl] at hi
     split at hi
     ·rename_i e; subst e; exact hjS
     ·exact hD.sub i hi
    ·intro i hi k hk
     rw [getD_setB hjl] at hi ⊢
     split
     ·rfl
     ·split at hi
      ·rename_i e; subst e
       unfold bindsAt at hk
       rw [ho] at hk
       exact hk' k hk
      ·exact hD.down i hi k hk
    ·intro t
     by_cases hdt : d = t
     ·subst hdt
      left
      refine ⟨j,hjS,by rw [getD_setB hjl,if_pos rfl],by rw [hdj,hod],?_⟩
      rw [hod]
      simp only [St.put,get_set,if_true]
     ·have hput : get (σ.put o.dst (X j)).env t = get σ.env t:=by
       rw [hod]
       simp only [St.put,get_set,if_neg hdt]
      rw [hput]
      rcases hD.env t with ⟨i,hiS,hil,hid,hiv⟩ | ⟨hn,hv⟩
      ·left
       refine ⟨i,hiS,?_,hid,hiv⟩
       rw [getD_setB hjl]
       split
       ·rfl
       ·exact hil
      ·right
       refine ⟨fun i hiS hi=>?_,hv⟩
       rw [getD_setB hjl] at hi
       split at hi
       ·rename_i e; subst e
        rw [hdj,hod]
        intro h; injection h with h; exact hdt h
       ·exact hn i hiS hi
/-! ### the first ones, walked in one order -/
theorem dstAt_of {i : Nat} {o : Oper} (h : ops[i]? = some o) : dstAt ops i = o.dst:=by unfold dstAt; rw [h] <;> rfl
theorem bindsAt_of {i : Nat} {o : Oper} (h : ops[i]? = some o) : bindsAt ops i = binds o:=by unfold bindsAt; rw [h]
structure Pre (P : Program) (ops : Array Oper) (done : List Nat) (X : Nat → AV) (σ0 σ : St) : Prop where
 nodup : done.Nodup
 dist : ∀ i ∈ done,∀ j ∈ done,dstAt ops i = dstAt ops j → i = j
 isop : ∀ i ∈ done,∃ o d,ops[i]? = some o ∧ o.dst = some d
 early : ∀ (A : List Nat) (i : Nat) (B : List Nat),done = A ++ i :: B → ∀ k ∈ bindsAt ops i,k ∈ A
 base : Base σ0 σ
 env : ∀ t,(∃ i ∈ done,dstAt ops i = some t ∧ get σ.env t = some (X i)) ∨ ((∀ i ∈ done,dstAt ops i ≠ some t) ∧ get σ.env t = get σ0.env t)
 step : ∀ i ∈ done,∃ o σi,ops[i]? = some o ∧ Base σ0 σi ∧ FnAt P ops i o σi (X i) ∧ ∀ t ∈ o.looksAt ops,∀ x,get σi.env t = some x →
  (∃ k ∈ done,dstAt ops k = some t ∧ k ∈ binds o ∧ X k = x) ∨ ((∀ k ∈ done,dstAt ops k ≠ some t) ∧ get σ0.env t = some x)
def Clear (ops : Array Oper) (done rest : List Nat) : Prop:=∀ i ∈ done,∀ o,ops[i]? = some o → ∀ t ∈ o.looksAt ops,∀ k ∈ rest,dstAt ops k ≠ some t
theorem awFun_pre {K : St → Prop} {σ0 : St} : ∀ (rest done : List Nat) (X : Nat → AV) (σ : St),funOk ops done rest = true → Clear ops done rest → Pre P ops done X σ0 σ → awFun P ops K rest σ →
  ∃ X' σ',Pre P ops (done ++ rest) X' σ0 σ' ∧ K σ'
 | [],done,X,σ,_,_,hP,h=>⟨X,σ,by rw [List.append_nil]; exact hP,h⟩
 | i :: r,done,X,σ,hok,hcl,hP,⟨o,Y,ho,hF,h⟩=>by
  simp only [funOk,Bool.and_eq_true] at hok
  obtain ⟨hst,hok⟩:=hok
  unfold funStep at hst
  rw [ho] at hst
  simp only at hst
  split at hst
  ·cases hst
  rename_i d hd
  simp only [Bool.and_eq_true,List.all_eq_true,List.contains_iff_mem,Bool.not_eq_true',bne_iff_ne,ne_eq,Bool.or_eq_true] at hst
  obtain ⟨⟨⟨hb,hni⟩,hdd⟩,hlk⟩:=hst
  have hni : i ∉ done:=by
   intro hm
   have : done.contains i = true:=by simpa using hm
   rw [this] at hni
   cases hni
  have hdi : dstAt ops i = some d:=by rw [dstAt_of ho,hd]
  have hne : ∀ k ∈ done,k ≠ i:=fun k hk e=>hni (e ▸ hk)
  let X' : Nat → AV:=fun k=>if k = i then Y else X k
  have hXd : ∀ k ∈ done,X' k = X k:=fun k hk=>if_neg (hne k hk)
  have hXi : X' i = Y:=if_pos rfl
  rw [show done ++ i :: r = (done ++ [i]) ++ r by simp]
  refine awFun_pre r (done ++ [i]) X' (σ.put o.dst Y) hok ?_ ?_ h
  ·intro k hk o' ho' t ht q hq
   rcases List.mem_append.1 hk with hk | hk
   ·exact hcl k hk o' ho' t ht q (by simp [hq])
   ·obtain rfl : k = i:=by simpa using hk
    rw [ho] at ho'
    injection ho' with ho'
    subst ho'
    exact (hlk t ht).1 q (by simp [hq])
  ·refine ⟨?_,?_,?_,?_,hP.base.trans (Base.put _ _ _),?_,?_⟩
   ·rw [List.nodup_append]
    exact ⟨hP.nodup,by simp,by intro a ha b hb' e; simp only [List.mem_singleton] at hb'; subst hb' e; exact hni ha⟩
   ·intro a ha b hb' e
    rcases List.mem_append.1 ha with ha1 | ha1 <;> rcases List.mem_append.1 hb' with hb1 | hb1
    ·exact hP.dist a ha1 b hb1 e
    ·obtain rfl : b = i:=by simpa using hb1
     exact absurd (e.trans hdi) (hdd a ha1)
    ·obtain rfl : a = i:=by simpa using ha1
     exact absurd (e.symm.trans hdi) (hdd b hb1)
    ·obtain rfl : a = i:=by simpa using ha1
     obtain rfl : b = a:=by simpa using hb1
     rfl
   ·intro a ha
    rcases List.mem_append.1 ha with ha | ha
    ·exact hP.isop a ha
    ·obtain rfl : a = i:=by simpa using ha
     exact ⟨o,d,ho,hd⟩
   ·intro A a B e k hk
    rcases List.append_eq_append_iff.1 e with ⟨C,hA,hC⟩ | ⟨C,hA,hC⟩
    ·-- A = done ++ C,[i] = C ++ a :: B
     cases C with
     | nil =>
      simp only [List.nil_append,List.cons.injEq] at hC
      obtain ⟨rfl,_⟩:=hC
      rw [bindsAt_of ho] at hk
      rw [hA]
      simpa using hb k hk
     | cons c C =>
      simp only [List.cons_append,List.cons.injEq] at hC
      have:=hC.2
      simp at this
    ·cases C with
     | nil =>
      simp only [List.nil_append,List.cons.injEq] at hC
      obtain ⟨rfl,_⟩:=hC
      rw [bindsAt_of ho] at hk
      have:=hb k hk
      rw [hA] at this
      simpa using this
     | cons c C =>
      simp only [List.cons_append,List.cons.injEq] at hC
      obtain ⟨rfl,hC⟩:=hC
      exact hP.early A a C hA k hk
   ·intro t
    rw [hd]
    simp only [St.put,get_set]
    by_cases e : d = t
    ·subst e
     left
     exact ⟨i,by simp,hdi,by rw [if_pos rfl,hXi]⟩
    ·rw [if_neg e]
     rcases hP.env t with ⟨k,hk,hkd,hkv⟩ | ⟨hn,hv⟩
     ·left
      exact ⟨k,by simp [hk],hkd,by rw [hkv,hXd k hk]⟩
     ·right
      refine ⟨fun k hk=>?_,hv⟩
      rcases List.mem_append.1 hk with hk | hk
      ·exact hn k hk
      ·obtain rfl : k = i:=by simpa using hk
       rw [hdi]
       intro h; injection h with h; exact e h
   ·intro a ha
    rcases List.mem_append.1 ha with ha1 | ha1
    ·obtain ⟨o',σi,h1,h2,h3,h4⟩:=hP.step a ha1
     refine ⟨o',σi,h1,h2,by rw [hXd a ha1]; exact h3,fun t ht x hx=>?_⟩
     rcases h4 t ht x hx with ⟨k,hk,hkd,hkb,hkx⟩ | ⟨hn,hx0⟩
     ·left
      exact ⟨k,by simp [hk],hkd,hkb,by rw [hXd k hk]; exact hkx⟩
     ·right
      refine ⟨fun k hk=>?_,hx0⟩
      rcases List.mem_append.1 hk with hk | hk
      ·exact hn k hk
      ·obtain rfl : k = i:=by simpa using hk
       exact hcl a ha1 o' h1 t ht k (by simp)
    ·obtain rfl : a = i:=by simpa using ha1
     refine ⟨o,σ,ho,hP.base,by rw [hXi]; exact hF,fun t ht x hx=>?_⟩
     have hown : dstAt ops a ≠ some t:=(hlk t ht).1 a (by simp)
     rcases hP.env t with ⟨k,hk,hkd,hkv⟩ | ⟨hn,hv⟩
     ·left
      refine ⟨k,by simp [hk],hkd,?_,?_⟩
      ·rcases (hlk t ht).2 k hk with h | h
       ·exact absurd hkd h
       ·exact h
      ·rw [hXd k hk]
       rw [hkv] at hx
       injection hx
     ·right
      refine ⟨fun k hk=>?_,by rw [← hv]; exact hx⟩
      rcases List.mem_append.1 hk with hk | hk
      ·exact hn k hk
      ·obtain rfl : k = a:=by simpa using hk
       exact hown
theorem funOk_tail : ∀ (rest done : List Nat),funOk ops done rest = true → ∀ j,j < ops.size → j ∉ done ++ rest → ∀ i ∈ done ++ rest,i ∈ reach ops 6 j
 | [],done,h,j,hj,hn,i,hi=>by
  rw [List.append_nil] at hn hi
  simp only [funOk,List.all_eq_true,List.mem_range,Bool.or_eq_true,List.contains_iff_mem] at h
  rcases h j hj with h | h
  ·exact absurd h hn
  ·exact h i hi
 | q :: r,done,h,j,hj,hn,i,hi=>by
  simp only [funOk,Bool.and_eq_true] at h
  rw [show done ++ q :: r = (done ++ [q]) ++ r by simp] at hn hi
  exact funOk_tail r (done ++ [q]) h.2 j hj hn i hi
def listAll (l : Array Bool) (S : List Nat) : Array Bool:=S.foldl (fun l i=>l.setIfInBounds i true) l
theorem listAll_size (l : Array Bool) (S : List Nat) : (listAll l S).size = l.size:=by
 induction S generalizing l with
 | nil=>rfl
 | cons i S ih=>simp only [listAll,List.foldl_cons] at ih ⊢; rw [ih]; simp
theorem listAll_get (S : List Nat) : ∀ (l : Array Bool),(∀ i ∈ S,i < l.size) → ∀ j,(listAll l S).getD j false = (l.getD j false || S.contains j):=by
 induction S with
 | nil=>intro l _ j; simp [listAll]
 | cons i S ih =>
  intro l h j
  have hi:=h i (by simp)
  simp only [listAll,List.foldl_cons] at ih ⊢
  rw [ih _ (by intro k hk; simpa using h k (by simp [hk])),getD_setB hi,List.contains_cons]
  by_cases e : i = j
  ·subst e; simp
  ·have : (j == i) = false:=by simpa using Ne.symm e
   rw [if_neg e,this,Bool.false_or]
theorem AWG.fun {σ : St} {Q : AX → St → Prop} (S : List Nat) (pl : List (Nat × Nat)) (hsel : Region.noSelect ops = true) (hok : funOk ops [] S = true)
  (hp : (planOk ops pl (listAll (Array.replicate ops.size false) S) && pl.length + S.length == ops.size) = true) (hQ : PI Q)
  (h : awFun P ops (awPlan P ops (fun σ'=>Q .normal σ') (fun x σ'=>Q (.panic x) σ') pl) S σ) : AWG P ops σ Q:=by
 simp only [Bool.and_eq_true,beq_iff_eq] at hp
 obtain ⟨X,σS,hP,hK⟩:=awFun_pre (σ0:=σ) S [] (fun _=>.top) σ hok (by intro i hi; cases hi) ⟨List.nodup_nil,by simp,by simp,by intro A i B e; simp at e,Base.refl σ,fun t=>.inr ⟨by simp,rfl⟩,by simp⟩ h
 rw [List.nil_append] at hP
 have F : FunFacts P ops S X σ:=⟨hP.nodup,hP.dist,hP.isop,hP.early,by have:=funOk_tail S [] hok; simpa using this,hP.step⟩
 have hSlt : ∀ i ∈ S,i < (Array.replicate ops.size false).size:=by
  intro i hi
  obtain ⟨o,d,ho,_⟩:=hP.isop i hi
  simpa using (Array.getElem?_eq_some_iff.1 ho).1
 have hcnt : unl (Array.replicate ops.size false) S = S.length:=by
  unfold unl
  congr 1
  rw [List.filter_eq_self]
  intro i hi
  have:=hSlt i hi
  simp at this
  simp [this]
 have hgame:=fun_game (K:=fun σ=>∃ σ2,Eqv σ σ2 ∧ Q .normal σ2) (Kp:=fun x σ'=>Q (.panic x) σ') (f':=pl.length) F (by
  intro l σl hD hz
  have hall:=unl_zero hz
  have hleq : listAll (Array.replicate ops.size false) S = l:=by
   apply Array.ext
   ·rw [listAll_size,hD.size]; simp
   ·intro j hj1 hj2
    have h1:=listAll_get S _ hSlt j
    have h2 : (Array.replicate ops.size false).getD j false = false:=by simp [Array.getD]
    rw [h2,Bool.false_or] at h1
    have e1 : (listAll (Array.replicate ops.size false) S).getD j false = (listAll (Array.replicate ops.size false) S)[j]:=by simp [Array.getD,hj1]
    have e2 : l.getD j false = l[j]:=by simp [Array.getD,hj2]
    rw [← e1,← e2,h1]
    by_cases hm : j ∈ S
    ·rw [hall j hm]; simpa using hm
    ·have : S.contains j = false:=by simpa using hm
     rw [this]
     cases hv : l.getD j false with
     | false=>rfl
     | true=>exact absurd (hD.sub j hv) hm
  have hs:=awPlan_sound hsel hQ pl _ σS hp.1 hK
  rw [hleq] at hs
  refine GAny.eqv (fun σ σ' he ⟨σ2,h1,h2⟩=>⟨σ2,he.symm.trans h1,h2⟩) ?_ hs
  have hb : Base σS σl:=⟨hD.base.n.trans hP.base.n.symm,hD.base.hp.trans hP.base.hp.symm,hD.base.nx.trans hP.base.nx.symm,hD.base.gl.trans hP.base.gl.symm,hD.base.np.trans hP.base.np.symm,hD.base.df.trans hP.base.df.symm⟩
  refine ⟨hb.n,hb.gl,hb.np,hb.hp,hb.nx,hb.df,fun t=>?_⟩
  rcases hD.env t with ⟨i,hi,_,hid,hiv⟩ | ⟨hn,hv⟩
  ·rcases hP.env t with ⟨k,hk',hkd,hkv⟩ | ⟨hn,_⟩
   ·rw [hiv,hkv,hP.dist i hi k hk' (by rw [hid,hkd])]
   ·exact absurd hid (hn i hi)
  ·rcases hP.env t with ⟨k,hk',hkd,_⟩ | ⟨_,hv'⟩
   ·exact absurd hkd (hn k hk' (hall k hk'))
   ·rw [hv,hv']) S.length _ σ hcnt ⟨by simp,by
    intro i hi; simp [Array.getD] at hi,by
    intro i hi; simp [Array.getD] at hi,Base.refl σ,fun t=>.inr ⟨by
    intro i _ hi; simp [Array.getD] at hi,rfl⟩⟩
 unfold AWG
 rw [show ops.size = S.length + pl.length from by omega]
 rw [show ops.size = S.length + pl.length from by omega] at hgame
 exact hgame
theorem AW.fun {σ : St} {Q : AX → St → Prop} {id : Nat} (S : List Nat) (pl : List (Nat × Nat)) (hm : P.follows .mixedOrders = true) (hsel : Region.noSelect ops = true) (hok : funOk ops [] S = true)
  (hp : (planOk ops pl (listAll (Array.replicate ops.size false) S) && pl.length + S.length == ops.size) = true) (hQ : PI Q)
  (h : awFun P ops (awPlan P ops (fun σ'=>Q .normal σ') (fun x σ'=>Q (.panic x) σ') pl) S σ) : AW P (.region id ops true) σ Q:=AW.ofG hm (AWG.fun S pl hsel hok hp hQ h)
end
end Aw
