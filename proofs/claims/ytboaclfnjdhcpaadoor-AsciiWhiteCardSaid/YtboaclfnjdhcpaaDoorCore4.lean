/- Rules of a calculus of walks: no condition of its own. -/
import Derived.Test.YtboaclfnjdhcpaaDoorCore3
namespace Aw
open Go

/-! ### what an operation looks at -/
section
variable {P : Program} {σ σ' : St}
theorem op1_congr {g : Bool} {x : Operand} {f f' : AV → Option (Prop × AV)} (h : ev σ' x = ev σ x) (hf : ∀ a,f' a = f a) : op1 σ' g x f' = op1 σ g x f:=by
 have : f' = f:=funext hf
 subst this
 unfold op1
 rw [h]
theorem optOp_congr {g : Bool} {x : Option Operand} {f f' : Option AV → Option (Prop × AV)} (h : ∀ y,x = some y → ev σ' y = ev σ y) (hf : ∀ a,f' a = f a) : optOp σ' g x f' = optOp σ g x f:=by
 unfold optOp
 cases x with
 | none=>exact hf none
 | some y=>exact op1_congr (h y rfl) fun a=>hf _
theorem evs_congr : ∀ {l : List Operand},(∀ x ∈ l,ev σ' x = ev σ x) → evs σ' l = evs σ l
 | [],_=>rfl
 | x :: l,h=>by
  simp only [evs]
  rw [h x (List.mem_cons_self ..),evs_congr fun y hy=>h y (List.mem_cons_of_mem _ hy)]

theorem pureOp_congr {g : Bool} {o : Op} (hhp : σ'.hp = σ.hp) (h : ∀ x ∈ o.operands,ev σ' x = ev σ x) : pureOp P σ' g o = pureOp P σ g o:=by
 cases o <;> simp only [Op.operands,pureOp] at h ⊢
 case move x=>exact op1_congr (h x (by simp)) fun _=>rfl
 case assign x=>exact op1_congr (h x (by simp)) fun _=>rfl
 case pick c a b=>unfold apick; rw [h c (by simp),h a (by simp),h b (by simp)]
 case load t x=>exact op1_congr (h x (by simp)) fun _=>by rw [hhp]
 case nilCheck x=>exact op1_congr (h x (by simp)) fun _=>rfl
 case binOp op t x y u=>exact op1_congr (h x (by simp)) fun _=>op1_congr (h y (by simp)) fun _=>rfl
 case unOp op t x=>exact op1_congr (h x (by simp)) fun _=>rfl
 case convert s d x=>exact op1_congr (h x (by simp)) fun _=>rfl
 case makeInterface t x=>exact op1_congr (h x (by simp)) fun _=>rfl
 case makeFunc fn first caps =>
  unfold amkfunc
  rw [evs_congr fun x hx=>h x (by simp at hx ⊢; exact .inr hx)]
 case fieldAddr t x f=>exact op1_congr (h x (by simp)) fun _=>rfl
 case field t x f=>exact op1_congr (h x (by simp)) fun _=>rfl
 case indexAddr t x i=>exact op1_congr (h x (by simp)) fun _=>op1_congr (h i (by simp)) fun _=>by rw [hhp]
 case index t x i=>exact op1_congr (h x (by simp)) fun _=>op1_congr (h i (by simp)) fun _=>rfl
 case slice t x lo hi mx =>
  cases mx with
  | some m=>rfl
  | none =>
   refine op1_congr (h x (by simp)) fun _=>optOp_congr (fun y hy=>h y (by simp [hy])) fun _=>optOp_congr (fun y hy=>h y (by simp [hy])) fun _=>?_
   rw [hhp]
 case extract x i=>exact op1_congr (h x (by simp)) fun _=>rfl
 case typeAssert x xt ty ok=>exact op1_congr (h x (by simp)) fun _=>rfl
 case call c =>
  obtain ⟨callee,args,ats⟩:=c
  simp only [Call.operands] at h
  cases callee with
  | value f=>rfl
  | invoke r m=>rfl
  | builtin b =>
   have hargs : ∀ x ∈ args.toList,ev σ' x = ev σ x:=fun x hx=>h x (by simpa using hx)
   cases b <;> try rfl
   case len =>
    simp only
    split
    ·rename_i x t hx ht
     exact op1_congr (hargs x (by rw [hx]; simp)) fun _=>by rw [hhp]
    ·rfl
   case min=>simp only; rw [evs_congr hargs]
   case max=>simp only; rw [evs_congr hargs]

def St.bare (σ : St) : St:=⟨σ.n,σ.env,[],0,σ.gl,σ.np,σ.df⟩
theorem ev_bare {x : Operand} : ev σ.bare x = ev σ x:=rfl
theorem op1_mono {g : Bool} {x : Operand} {f f' : AV → Option (Prop × AV)} {r : Prop × AV} (h : op1 σ.bare g x f = some r) (hf : ∀ a r,f a = some r → f' a = some r) : op1 σ g x f' = some r:=by
 unfold op1 at *
 rw [ev_bare] at h
 split at h
 case h_2=>cases h
 rename_i a ha
 split at h
 case h_2=>cases h
 rename_i q hq
 simp only [hf _ _ hq]
 exact h
theorem optOp_mono {g : Bool} {x : Option Operand} {f f' : Option AV → Option (Prop × AV)} {r : Prop × AV} (h : optOp σ.bare g x f = some r) (hf : ∀ a r,f a = some r → f' a = some r) : optOp σ g x f' = some r:=by
 unfold optOp at *
 cases x with
 | none=>exact hf _ _ h
 | some y=>exact op1_mono h fun a r=>hf _ r
theorem aload_mono {hp : List (Nat × ABlk)} {t : TypeId} {a : AV} {r : Prop × AV} (h : aload P [] t a = some r) : aload P hp t a = some r:=by
 unfold aload at *
 split at h
 ·cases h
 ·rename_i i hi
  cases a <;> simp only [Aw.get,reduceCtorEq] at h ⊢ <;> exact h
theorem aixa_mono {hp : List (Nat × ABlk)} {t : TypeId} {a b : AV} {r : Prop × AV} (h : aixa P [] t a b = some r) : aixa P hp t a b = some r:=by
 unfold aixa at *
 repeat' split at h
 all_goals first | (cases h; done) | (simp_all [Aw.get]; done) | exact h
theorem alen_mono {hp : List (Nat × ABlk)} {t : TypeId} {a : AV} {r : Prop × AV} (h : alen P [] t a = some r) : alen P hp t a = some r:=by
 unfold alen at *
 repeat' split at h
 all_goals first | (cases h; done) | (simp_all [Aw.get]; done) | exact h
theorem arowslice_none {t : TypeId} {a : AV} {lo hi : Option AV} : arowslice P [] t a lo hi = none:=by
 unfold arowslice
 split
 ·rfl
 ·split
  ·split
   ·rfl
   ·split
    ·split
     ·rename_i h; simp [Aw.get] at h
     ·rename_i h; simp [Aw.get] at h
     ·rfl
    ·rfl
  ·rfl
theorem pureOp_mono {g : Bool} {o : Op} {r : Prop × AV} (h : pureOp P σ.bare g o = some r) : pureOp P σ g o = some r:=by
 cases o
 case load t x =>
  simp only [pureOp] at h ⊢
  exact op1_mono h fun a r h=>aload_mono h
 case indexAddr t x i =>
  simp only [pureOp,op2] at h ⊢
  exact op1_mono h fun a r h=>op1_mono h fun b r h=>aixa_mono h
 case slice t x lo hi mx =>
  simp only [pureOp] at h ⊢
  cases mx with
  | some m=>cases h
  | none =>
   refine op1_mono h fun a r h=>optOp_mono h fun b r h=>optOp_mono h fun c r h=>?_
   rw [show σ.bare.hp = [] from rfl,arowslice_none] at h
   split at h
   ·exact h
   ·cases h
 case call c =>
  obtain ⟨callee,args,ats⟩:=c
  unfold pureOp at h ⊢
  cases callee with
  | value f=>cases h
  | invoke r m=>cases h
  | builtin b =>
   cases b <;> simp only [reduceCtorEq] at h ⊢
   case len =>
    split at h
    ·exact op1_mono h fun a r h=>alen_mono h
    ·cases h
   case min=>rw [evs_congr (σ:=σ) (σ':=σ.bare) fun _ _=>rfl] at h; exact h
   case max=>rw [evs_congr (σ:=σ) (σ':=σ.bare) fun _ _=>rfl] at h; exact h
 case makeFunc fn first caps =>
  simp only [pureOp,amkfunc] at h ⊢
  rw [evs_congr (σ:=σ) (σ':=σ.bare) fun _ _=>rfl] at h
  exact h
 all_goals exact h
end
end Aw
