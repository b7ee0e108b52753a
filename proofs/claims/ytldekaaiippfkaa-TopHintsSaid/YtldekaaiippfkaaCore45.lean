/- Rules of a calculus of walks: no condition of its own. -/
import Derived.Test.YtldekaaiippfkaaCore44
namespace Aw
open Go
/-- the state behind such a loop -/
def backBU (σ : St) (L L2 : List Nat) (hp' : List (Nat × ABlk)) (nx' : Nat) : St :=
 ⟨σ.n, σ.env, del (appHp (dels σ.hp (L ++ L2)) (renHp (bk (L ++ [σ.nx]) (σ.nx + 1)) hp')) σ.nx, σ.nx + 1 + (nx' - (L.length + 1)), σ.gl, σ.np, σ.df⟩
end Aw
