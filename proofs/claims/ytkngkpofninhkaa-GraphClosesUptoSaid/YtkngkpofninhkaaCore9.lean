/- A calculus for walks: abstract values and states, sound against the rules of the library. It states nothing of a program. -/
import Derived.Test.YtkngkpofninhkaaCore8
namespace Aw
open Go
theorem bytesAV_ok (l : List UInt8) : (∀ e ∈ bytesAV l, okRow 1 e = true) = True := by
  simp only [bytesAV, List.mem_map, eq_iff_iff, iff_true]
  rintro e ⟨b, _, rfl⟩
  rfl
theorem bytesAV_nil : bytesAV [] = [] := rfl
attribute [go_sem] bytesAV_ok
end Aw
