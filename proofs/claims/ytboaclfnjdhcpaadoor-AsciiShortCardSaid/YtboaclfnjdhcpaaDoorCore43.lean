/- Rules of a calculus of walks: no condition of its own. -/
import Derived.Test.YtboaclfnjdhcpaaDoorCore42
namespace Aw
open Go
theorem AW.tVd {P : Program} {σ σ1 : St} {Q : AX → St → Prop} {y : Code} {id : Nat} {ops : Array Oper} (T : PT) (h : awTree P ops (fun σ=>True ∧ St.le σ1 σ) (fun x σ'=>Q (.panic x) σ') T σ) (hk : AW P y σ1 Q) (hm : P.follows .mixedOrders = true:=by kernel_rfl) (hsel : Region.noSelect ops = true:=by kernel_rfl)
  (hp : treeOk ops false ops.size T (Array.replicate ops.size false) = true:=by kernel_rfl) (hQ : PI Q:=by repeat (first | exact Aw.PI.fin | exact Aw.PI.finH | refine Aw.PI.unblock ?_ | refine Aw.PI.andThen ?_)) : AW P (.seq (.region id ops true) y) σ Q :=
 AW.seq (AW.mono (AW.ofG hm (AWG.drawTreeK (Q:=andThen (fun σ'=>True ∧ St.le σ1 σ') Q) T hsel hp (PI.andThen hQ) h)) fun ax σ' hq=>by
  cases ax with
  | normal=>exact AW.pre hq.2 hk
  | ret=>exact hq
  | exit _=>exact hq
  | panic _=>exact hq)
end Aw

namespace Aw
open Go
theorem FnK.cutE {P : Program} {gl : List (Nat × AV)} {f : FuncId} {xs : List AV} {hp hp2 : List (Nat × ABlk)} {β : Type} {hp1 : β → List (Nat × ABlk)} {nx np n1 : Nat} {y : AV} (h : FnK P gl f xs hp nx np fun r h n=>∃ b : β,r = .ret y ∧ h = hp1 b ∧ n = n1) (l : List Nat)
  (hpre : ∀ i,i < np → nth l i = some i) (hnd : l.Nodup) (hhp : ∀ b,viewHp (pick l n1) l.length (hp1 b) hp2) (hy : Aw.ren (pick l n1) y = y) :
  FnK P gl f xs hp nx np fun r h n=>r = .ret y ∧ h = hp2 ∧ n = l.length:=by
 refine ⟨h.enters,fun m vs hm hv=>(h.calls m vs hm hv).mono ?_⟩
 rintro e w' ⟨m',r,hp',nx',rfl,hle,hH,hen,b,rfl,rfl,rfl⟩
 refine ⟨m'.ren (pick l nx'),.ret y,hp2,l.length,rfl,hle.trans ⟨rfl,rfl,rfl,Nat.le_refl _,rfl,fun _ _=>rfl,fun _ _ h=>h,fun _ _ _=>rfl,fun _ _ _ h=>h,rfl,?_⟩,hH.view l hnd (hhp b),?_,rfl,rfl,rfl⟩
 ·intro id ri hi hr
  show m'.ρ (pick l nx' id) = some ri
  rw [hle.np,hm.np] at hi
  unfold pick
  rw [hpre id hi]
  exact hr
 ·obtain ⟨v,h1,h2⟩:=hen
  exact ⟨v,h1,Rep.ren y v (by rw [hy]; exact h2)⟩
end Aw

namespace Aw
open Go
theorem FnP.ofH {P : Program} {gl : List (Nat × AV)} {f : FuncId} {xs : List AV} {y z : AV} {hp1 : List (Nat × ABlk)} {n1 : Nat} {ob : Prop} (h : FnH P gl f xs [] 0 fun r h n=>r = .ret y ∧ h = hp1 ∧ n = n1)
  (hc : shr false (frzs hp1 (rids hp1 9 y)) 9 y = some (ob,z)) (hob : ob) : FnP P gl f xs fun r=>r = .ret z:=by
 refine ⟨h.enters,fun m vs hm hv=>?_⟩
 have hH : SimH m [] 0:=⟨fun id x hx=>by simp [get] at hx,fun id id' x x' ri ri' hx=>by simp [get] at hx,fun id _=>hm.ρ id,hm.Fold,hm.Pold⟩
 refine (h.calls m vs ⟨hH,hm.gl,hm.np⟩ (RepL.down (Nat.zero_le 1) _ _ hv)).mono ?_
 rintro e w' ⟨m',r,hp',nx',rfl,hle,hS,hen,rfl,rfl,rfl⟩
 obtain ⟨v,hv1,hv2⟩:=hen
 obtain ⟨m2,h1,_,h3,h4,h5⟩:=frzs_sound (rids hp' 9 y) hS
 refine ⟨m2,.ret z,h1,hle.trans h3,h5.Fold,⟨v,hv1,?_⟩,rfl⟩
 exact shr_sound h5 false ⟨fun _ _ h=>h,fun _ _ _=>rfl⟩ rfl (fun h=>by cases h) 9 y z v ob hc hob (Rep.mono h4 0 _ _ hv2)
theorem FnH.cut {P : Program} {gl : List (Nat × AV)} {f : FuncId} {xs : List AV} {y : AV} {hp1 hp2 : List (Nat × ABlk)} {n1 : Nat} (h : FnH P gl f xs [] 0 fun r h n=>r = .ret y ∧ h = hp1 ∧ n = n1) (l : List Nat) (hnd : l.Nodup) (hhp : viewHp (pick l n1) l.length hp1 hp2) (hy : Aw.ren (pick l n1) y = y) :
  FnH P gl f xs [] 0 fun r h n=>r = .ret y ∧ h = hp2 ∧ n = l.length:=by
 have h1 : FnK P gl f xs [] 0 0 fun r h n=>∃ _ : Unit,r = .ret y ∧ h = hp1 ∧ n = n1:=⟨h.enters,fun m vs hm hv=>(h.calls m vs ⟨hm.h,hm.gl,hm.np⟩ hv).mono fun _ _ ⟨m',r,hp',nx',a1,a2,a3,a4,a5⟩=>⟨m',r,hp',nx',a1,a2,a3,a4,⟨(),a5⟩⟩⟩
 have h2:=FnK.cutE h1 l (fun i hi=>absurd hi (Nat.not_lt_zero i)) hnd (fun _=>hhp) hy
 exact ⟨h2.enters,fun m vs hm hv=>h2.calls m vs ⟨hm.h,hm.gl,hm.np,Nat.le_refl _⟩ hv⟩
end Aw
