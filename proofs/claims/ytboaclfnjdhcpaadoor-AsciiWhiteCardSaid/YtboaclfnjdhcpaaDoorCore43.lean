/- Rules of a calculus of walks: no condition of its own. -/
import Derived.Test.YtboaclfnjdhcpaaDoorCore42
namespace Aw
open Go
end Aw

namespace Aw
open Go
theorem FnK.cutE {P : Program} {gl : List (Nat × AV)} {f : FuncId} {xs : List AV} {hp hp2 : List (Nat × ABlk)} {β : Type} {hp1 : β → List (Nat × ABlk)} {nx np n1 : Nat} {y : AV} (h : FnK P gl f xs hp nx np fun r h n=>∃ b : β,r = .ret y ∧ h = hp1 b ∧ n = n1) (l : List Nat)
  (hpre : ∀ i,i < np → nth l i = some i) (hnd : l.Nodup) (hhp : ∀ b,viewHp (pick l n1) l.length (hp1 b) hp2) (hy : Aw.ren (pick l n1) y = y) :
  FnK P gl f xs hp nx np fun r h n=>r = .ret y ∧ h = hp2 ∧ n = l.length:=by
 refine ⟨h.enters,fun m vs hm hv=>(h.calls m vs hm hv).mono ?_⟩
 rintro e w' ⟨m',r,hp',nx',rfl,hle,hH,hen,b,rfl,rfl,rfl⟩
 refine ⟨m'.ren (pick l nx'),.ret y,hp2,l.length,rfl,hle.trans ⟨rfl,rfl,rfl,Nat.le_refl _,rfl,fun _ _=>rfl,fun _ _ h=>h,fun _ _ _=>rfl,fun _ _ _ h=>h,rfl,?_⟩,hH.view l hnd (hhp b),?_,rfl,rfl,rfl⟩
 ·intro id ri hi hr
  show m'.ρ (pick l nx' id) = some ri
  rw [hle.np,hm.np] at hi
  unfold pick
  rw [hpre id hi]
  exact hr
 ·obtain ⟨v,h1,h2⟩:=hen
  exact ⟨v,h1,Rep.ren y v (by rw [hy]; exact h2)⟩
end Aw

namespace Aw
open Go
theorem FnH.cut {P : Program} {gl : List (Nat × AV)} {f : FuncId} {xs : List AV} {y : AV} {hp1 hp2 : List (Nat × ABlk)} {n1 : Nat} (h : FnH P gl f xs [] 0 fun r h n=>r = .ret y ∧ h = hp1 ∧ n = n1) (l : List Nat) (hnd : l.Nodup) (hhp : viewHp (pick l n1) l.length hp1 hp2) (hy : Aw.ren (pick l n1) y = y) :
  FnH P gl f xs [] 0 fun r h n=>r = .ret y ∧ h = hp2 ∧ n = l.length:=by
 have h1 : FnK P gl f xs [] 0 0 fun r h n=>∃ _ : Unit,r = .ret y ∧ h = hp1 ∧ n = n1:=⟨h.enters,fun m vs hm hv=>(h.calls m vs ⟨hm.h,hm.gl,hm.np⟩ hv).mono fun _ _ ⟨m',r,hp',nx',a1,a2,a3,a4,a5⟩=>⟨m',r,hp',nx',a1,a2,a3,a4,⟨(),a5⟩⟩⟩
 have h2:=FnK.cutE h1 l (fun i hi=>absurd hi (Nat.not_lt_zero i)) hnd (fun _=>hhp) hy
 exact ⟨h2.enters,fun m vs hm hv=>h2.calls m vs ⟨hm.h,hm.gl,hm.np,Nat.le_refl _⟩ hv⟩
end Aw
