/- A part of the proof: no condition of its own. -/
import Derived.Test.YtlamdhcfojligaaGreatPart7
import Derived.JoinedCond
import Derived.Test.YtlamdhcfojligaaGreatRows
namespace Go.Proofs.YtlamdhcfojligaaGreat
open Go Aw
theorem own : ownKnob Tryz.prog.godebug = none:=by kernel_rfl
theorem laidOut : laidOutB Tryz.prog = true:=by kernel_rfl
theorem objT : ObjT Tryz.prog 26 3 2 9 23 24 where
 o:=⟨_,Tryz.underlying26,rfl⟩
 i:=Tryz.underlying3
 l:=Tryz.underlying2
 s:=Tryz.underlying9
 ks:=Tryz.underlying23
 os:=Tryz.underlying24
 c:=by and_intros <;> kernel_rfl
theorem docT : DocT Tryz.prog 26 3 2 9 23 24 45 22 28 where
 o:=objT
 it:=⟨_,Tryz.underlying45,rfl⟩
 its:=Tryz.underlying22
 d:=⟨_,Tryz.underlying28,rfl⟩
 c:=by and_intros <;> kernel_rfl
mutual
theorem dle_upto {H : Type} : ∀ d : DataW H,dbulk d ≤ Rows.uptoBulk d
 | .lit (.string _)=>by simp only [dbulk,Rows.uptoBulk]; omega
 | .lit (.bool _)=>by simp only [dbulk,Rows.uptoBulk]; omega
 | .lit (.int _ _)=>by simp only [dbulk,Rows.uptoBulk]; omega
 | .lit (.float _ _)=>by simp only [dbulk,Rows.uptoBulk]; omega
 | .lit .nil=>by simp only [dbulk,Rows.uptoBulk]; omega
 | .nil=>by simp only [dbulk,Rows.uptoBulk]; omega
 | .ptr d=>by have:=dle_upto d; simp only [dbulk,Rows.uptoBulk]; omega
 | .slice es sp=>by have:=dles_upto es; have:=dles_upto sp; simp only [dbulk,Rows.uptoBulk]; omega
 | .agg ps=>by have:=dles_upto ps; simp only [dbulk,Rows.uptoBulk]; omega
 | .iface _ d=>by have:=dle_upto d; simp only [dbulk,Rows.uptoBulk]; omega
 | .map _=>by simp only [dbulk,Rows.uptoBulk]; omega
 | .held _=>by simp only [dbulk,Rows.uptoBulk]; omega
theorem dles_upto {H : Type} : ∀ l : List (DataW H),dbulks l ≤ Rows.uptoBulkAll l
 | []=>by simp only [dbulks,Rows.uptoBulkAll]; omega
 | d :: r=>by have:=dle_upto d; have:=dles_upto r; simp only [dbulks,Rows.uptoBulkAll]; omega
end
end Go.Proofs.YtlamdhcfojligaaGreat

namespace Go.Proofs
end Go.Proofs
