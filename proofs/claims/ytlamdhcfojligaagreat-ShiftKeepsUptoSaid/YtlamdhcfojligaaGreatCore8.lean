/- Rules of a calculus of walks: no condition of its own. -/
import Derived.Test.YtlamdhcfojligaaGreatCore7
namespace Aw
open Go
theorem bytesAV_ok (l : List UInt8) : (∀ e ∈ bytesAV l,okRow 1 e = true) = True:=by
 simp only [bytesAV,List.mem_map,eq_iff_iff,iff_true]
 rintro e ⟨b,_,rfl⟩
 rfl
theorem bytesAV_nil : bytesAV [] = []:=rfl
attribute [go_sem] bytesAV_ok
end Aw
