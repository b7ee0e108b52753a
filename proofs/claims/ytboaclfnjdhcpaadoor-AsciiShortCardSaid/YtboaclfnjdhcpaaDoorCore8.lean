/- Rules of a calculus of walks: no condition of its own. -/
import Derived.Test.YtboaclfnjdhcpaaDoorCore7
namespace Aw
open Go
theorem bytesAV_length (l : List UInt8) : (bytesAV l).length = l.length:=by simp [bytesAV]
theorem bytesAV_append (a b : List UInt8) : bytesAV a ++ bytesAV b = bytesAV (a ++ b):=by simp [bytesAV]
theorem bytesAV_take (n : Nat) (l : List UInt8) : (bytesAV l).take n = bytesAV (l.take n):=by simp [bytesAV,List.map_take]
theorem bytesAV_drop (n : Nat) (l : List UInt8) : (bytesAV l).drop n = bytesAV (l.drop n):=by simp [bytesAV,List.map_drop]
theorem bytesAV_ok (l : List UInt8) : (∀ e ∈ bytesAV l,okRow 1 e = true) = True:=by
 simp only [bytesAV,List.mem_map,eq_iff_iff,iff_true]
 rintro e ⟨b,_,rfl⟩
 rfl
theorem bytesAV_cons (b : UInt8) (l : List UInt8) : bytesAV (b :: l) = [AV.int .u8 (b.toNat : Int)] :: bytesAV l:=rfl
theorem bytesAV_one (b : UInt8) : [[AV.int .u8 (b.toNat : Int)]] = bytesAV [b]:=rfl
theorem bytesAV_nil : bytesAV [] = []:=rfl
theorem take_bytesAV_self (l : List UInt8) : (bytesAV l).take l.length = bytesAV l:=List.take_of_length_le (by rw [bytesAV_length]; exact Nat.le_refl _)
theorem Less.self (x : AV) : Less x x = True:=by simp [Less.refl]
attribute [go_sem] bytesAV_length bytesAV_ok bytesOf_bytesAV take_bytesAV_self
end Aw
