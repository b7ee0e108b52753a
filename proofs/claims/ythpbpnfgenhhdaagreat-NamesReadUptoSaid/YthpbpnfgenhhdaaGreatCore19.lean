/- Rules of a calculus of walks: no condition of its own. -/
import Derived.Test.YthpbpnfgenhhdaaGreatCore18
namespace Aw
open Go
theorem AW.trim {P : Program} {σ : St} {c : Code} {Q : AX → St → Prop} (L : List Nat) {E : List (Nat × AV)} (k : AW P c ⟨σ.n,E,σ.hp,σ.nx,σ.gl,σ.np,σ.df⟩ Q) (hE : keepE L σ.env = E:=by (simp only [go_sem,seval]; iterate 2 try (simp (disch:=omega) only [zq]; try simp only [go_sem,seval])); exact rfl) : AW P c σ Q:=by
 subst hE
 refine AW.pre (σ':=⟨σ.n,keepE L σ.env,σ.hp,σ.nx,σ.gl,σ.np,σ.df⟩) (fun m a hS=>⟨m,rfl,.refl m,hS.fewer ⟨rfl,rfl,rfl,rfl,rfl,rfl⟩ fun t x h=>(get_keepE _ _ t x h).2⟩) k
end Aw
