/- Rules of a calculus of walks: no condition of its own. -/
import Derived.Test.YtldekaaiippfkaaCore27
namespace Aw
open Go

theorem SimH.sub {m : Mem} {hp hp' : List (Nat × ABlk)} {nx : Nat} (h : SimH m hp nx) (hs : ∀ id x, get hp' id = some x → get hp id = some x) : SimH m hp' nx :=
 ⟨fun id x hx => h.blk id x (hs id x hx), fun id id' x x' ri ri' hx hx' => h.apart id id' x x' ri ri' (hs _ _ hx) (hs _ _ hx'), h.fresh, h.Fold, h.Pold⟩
section
variable {m : Mem} {hp : List (Nat × ABlk)} {nx l k : Nat} {rc : Loop}
end
/-- the state behind a loop over a function -/
def backB (σ : St) (L : List Nat) (hp' : List (Nat × ABlk)) (nx' : Nat) : St :=
 ⟨σ.n, σ.env, del (appHp (dels σ.hp L) (renHp (bk (L ++ [σ.nx]) (σ.nx + 1)) hp')) σ.nx, σ.nx + 1 + (nx' - (L.length + 1)), σ.gl, σ.np, σ.df⟩
end Aw
