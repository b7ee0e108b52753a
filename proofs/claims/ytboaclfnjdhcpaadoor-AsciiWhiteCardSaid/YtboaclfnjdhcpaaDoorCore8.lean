/- Rules of a calculus of walks: no condition of its own. -/
import Derived.Test.YtboaclfnjdhcpaaDoorCore7
namespace Aw
open Go
theorem bytesAV_length (l : List UInt8) : (bytesAV l).length = l.length:=by simp [bytesAV]
theorem bytesAV_append (a b : List UInt8) : bytesAV a ++ bytesAV b = bytesAV (a ++ b):=by simp [bytesAV]
theorem bytesAV_ok (l : List UInt8) : (∀ e ∈ bytesAV l,okRow 1 e = true) = True:=by
 simp only [bytesAV,List.mem_map,eq_iff_iff,iff_true]
 rintro e ⟨b,_,rfl⟩
 rfl
theorem bytesAV_nil : bytesAV [] = []:=rfl
theorem take_bytesAV_self (l : List UInt8) : (bytesAV l).take l.length = bytesAV l:=List.take_of_length_le (by rw [bytesAV_length]; exact Nat.le_refl _)
attribute [go_sem] bytesAV_length bytesAV_ok bytesOf_bytesAV take_bytesAV_self
end Aw
