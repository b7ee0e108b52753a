/- Rules of a calculus of walks: no condition of its own. -/
import Derived.Test.YtboaclfnjdhcpaaDoorCore32
namespace Aw
open Go
theorem AW.fin2 {P : Program} {c : Code} {σ : St} {Q : AX → St → Prop} (h : AW P c σ (fun x σ'=>(x = .normal ∨ x = .ret) ∧ ∃ σ2,St.le σ2 σ' ∧ Q x σ2)) : AW P c σ Q:=by
 intro m a hS
 refine wp_mono (h m a hS) ?_
 rintro e a' w' ⟨m',σ',ax,rfl,hle,hS',hex,hx,σ2,hl2,hq⟩
 obtain ⟨m2,e2,l2,s2⟩:=hl2 m' a' hS'
 refine ⟨m2,σ2,ax,e2,hle.trans l2,s2,?_,hq⟩
 rcases hx with rfl | rfl
 ·exact hex
 ·exact hex
end Aw
