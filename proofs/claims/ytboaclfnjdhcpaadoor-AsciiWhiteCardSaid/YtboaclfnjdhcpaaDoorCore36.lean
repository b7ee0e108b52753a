/- Rules of a calculus of walks: no condition of its own. -/
import Derived.Test.YtboaclfnjdhcpaaDoorCore35
namespace Aw
open Go
section
variable {B : Bs} {r : Option Nat} {Θ : Mem → Prop} {P : Program} {σ σ' : St} {Q : AX → St → Prop} {y : Code} {id : Nat} {o : Oper} {ops : Array Oper} {K : St → Prop} {Kp : AV → St → Prop} {ob ob' : Prop} {ys zs xs : List AV} {hp0 hp1 : List (Nat × ABlk)} {n1 c i : Nat}
theorem chainT.nil (h : K σ) : chainT B r Θ P ops K Kp 0 i σ:=h
end
section
variable {B : Bs} {r : Option Nat} {Θ : Mem → Prop} [Lasts Θ] {P : Program} {σ : St} {Q : AX → St → Prop} {g : Operand} {ps : List Tmp} {assign body : Code} {it : FuncId} {caps zs xs : List AV} {ob' : Prop} {L L2 : List Nat}
 {hp0 : List (Nat × ABlk)} {E : List (Nat × AV)} {R : Option Code → List (Nat × ABlk) → Nat → Prop}
end
section
variable {B : Bs} {r : Option Nat} {Θ : Mem → Prop} [Lasts Θ] {P : Program} {σ : St} {Q : AX → St → Prop} {ob' : Prop} {zs xs : List AV}
end
section
variable {B : Bs} {r : Option Nat} {Θ : Mem → Prop} {P : Program} {σ : St} {Q : AX → St → Prop}
end
end Aw

namespace Aw
open Go
section
variable {P : Program} {ops : Array Oper}
def storeAt (σ : St) (hp1 : List (Nat × ABlk)) : St:=⟨σ.n,σ.env,hp1,σ.nx,σ.gl,σ.np,σ.df⟩
def EffAt (P : Program) (ops : Array Oper) (e : Nat) (oe : Oper) (σ : St) (hp1 : List (Nat × ABlk)) : Prop :=
 ∃ σr : St,Base σ σr ∧ (∀ t x,get σr.env t = some x → t ∈ oe.looksAt ops ∧ get σ.env t = some x) ∧
  GStep P ops e σr (fun σ'=>σ'.hp = hp1 ∧ σ'.nx = σ.nx) (fun _ _=>False)
theorem EffAt.step {e : Nat} {oe : Oper} {σ σ2 : St} {hp1 : List (Nat × ABlk)} (ho : ops[e]? = some oe) (hd : oe.dst = none) (h : EffAt P ops e oe σ hp1) (hb : Base σ σ2) (he : ∀ t ∈ oe.looksAt ops,∀ x,get σ.env t = some x → get σ2.env t = some x)
  {K : St → Prop} {Kp : AV → St → Prop} (hK : K (storeAt σ2 hp1)) : GStep P ops e σ2 K Kp:=by
 obtain ⟨σr,hr,hre,hg⟩:=h
 unfold GStep at *
 rw [ho] at hg ⊢
 intro m a N Q hS hN hQ
 have hbr : Base σ2 σr:=⟨hr.n.trans hb.n.symm,hr.hp.trans hb.hp.symm,hr.nx.trans hb.nx.symm,hr.gl.trans hb.gl.symm,hr.np.trans hb.np.symm,hr.df.trans hb.df.symm⟩
 have hSr : Sim m a σr:=hS.fewer hbr fun t x ht=>he t (hre t x ht).1 x (hre t x ht).2
 refine hg m a N Q hSr ?_ (fun _ _ _ _ _ _ _ _ _ h=>h.elim)
 rintro m' a' σ' hle hk hS' hK' hL ⟨e1,e2⟩
 have hlv : ∀ t,oe.dst ≠ some t:=fun t h=>by rw [hd] at h; cases h
 refine hN m' a' (storeAt σ2 hp1) hle hk ?_ ?_ hL hK
 ·refine ⟨?_,?_,?_,?_,?_,?_⟩
  ·show SimH m' hp1 σ2.nx
   rw [hb.nx,← e2,← e1]; exact hS'.h
  ·show a'.tmps.size = σ2.n
   rw [hb.n,← hr.n,← hK'.n]; exact hS'.n
  ·show DefR m' σ2.df a'.defers
   rw [hb.df,← hr.df,← hK'.df]; exact hS'.defers
  ·intro t x ht
   obtain ⟨g1,g2⟩:=hS.env t x ht
   refine ⟨g1,?_⟩
   rw [hL t (hlv t)]
   exact Rep.mono hk 0 _ _ g2
  ·intro g x hg'
   have hg'' : get σ2.gl g = some x:=hg'
   rw [hb.gl,← hr.gl,← hK'.gl] at hg''
   exact hS'.gl g x hg''
  ·show m'.np = σ2.np
   rw [hb.np,← hr.np,← hK'.np]; exact hS'.np
 ·exact ⟨rfl,rfl,rfl,rfl,fun _ _=>rfl,fun hE=>by
   have:=hK'.hp hE
   refine ⟨?_,rfl⟩
   show hp1 = σ2.hp
   rw [← e1,this.1,hr.hp,hb.hp],fun hA id b hg=>by
   show get hp1 id = some b
   rw [← e1]
   refine hK'.hpA hA id b ?_
   rw [hr.hp,← hb.hp]
   exact hg⟩
end
end Aw
