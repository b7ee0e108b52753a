/- Rules of a calculus of walks: no condition of its own. -/
import Derived.Test.YtldekaaiippfkaaGreatCore38
namespace Aw
open Go
section
variable {P : Program} {ops : Array Oper} {σ : St} {Q : AX → St → Prop} {id : Nat}
end
/-- some rows are never written again -/
theorem AW.fz {P : Program} {σ : St} {c : Code} {Q : AX → St → Prop} (l : List Nat) {hp' : List (Nat × ABlk)} (k : AW P c ⟨σ.n, σ.env, hp', σ.nx, σ.gl, σ.np, σ.df⟩ Q) (hh : frzs σ.hp l = hp' := by (simp only [go_sem, seval]; try (simp (disch := omega) only [zq]; try (simp only [go_sem, seval]; try (simp (disch := omega) only [zq]; try simp only [go_sem, seval])))); exact rfl) : AW P c σ Q := by
 subst hh
 refine AW.pre (σ' := ⟨σ.n, σ.env, frzs σ.hp l, σ.nx, σ.gl, σ.np, σ.df⟩) (fun m a hS => ?_) k
 obtain ⟨m', h1, h2, h3, h4, h5⟩ := frzs_sound l hS.h
 refine ⟨m', h1, h3, h5, hS.n, hS.defers.mono h4, ?_, fun g z hg => Rep.mono h4 1 _ _ (hS.gl g z hg), by have := h3.np; rw [this]; exact hS.np⟩
 intro u z hz
 obtain ⟨g1, g2⟩ := hS.env u z hz
 exact ⟨g1, Rep.mono h4 0 _ _ g2⟩
end Aw

namespace Aw
open Go
theorem take_strsAV (l : List (List UInt8)) (k : Nat) : List.take k (strsAV l) = strsAV (l.take k) := by simp [strsAV, List.map_take]
theorem app1_strsAV (a : List (List UInt8)) (k : List UInt8) : strsAV a ++ [[.str k]] = strsAV (a ++ [k]) := by simp [strsAV]
theorem take_intsAV (l : List Int) (k : Nat) : List.take k (intsAV l) = intsAV (l.take k) := by simp [intsAV, List.map_take]
theorem app1_intsAV (a : List Int) (k : Int) : intsAV a ++ [[.int .i64 k]] = intsAV (a ++ [k]) := by simp [intsAV]
theorem take_objsAV (l : List Pob) (k : Nat) : List.take k (objsAV l) = objsAV (l.take k) := by simp [objsAV_map, List.map_take]
theorem app1_objsAV (a : List Pob) (o : Pob) : objsAV a ++ [[.int .i64 o.kind, .int .i64 o.num, .int .i64 o.gen, .str o.str, .sl (strsAV o.keys), .sl (objsAV o.kids)]] = objsAV (a ++ [o]) := by
 rw [objsAV_map a, objsAV_map (a ++ [o]), List.map_append]
 congr 1
 cases o
 rfl
theorem take_itemsAV (l : List Itm) (k : Nat) : List.take k (itemsAV l) = itemsAV (l.take k) := by simp [itemsAV, List.map_take]
theorem app_itemsAV (a b : List Itm) : itemsAV a ++ itemsAV b = itemsAV (a ++ b) := by simp [itemsAV]
end Aw
