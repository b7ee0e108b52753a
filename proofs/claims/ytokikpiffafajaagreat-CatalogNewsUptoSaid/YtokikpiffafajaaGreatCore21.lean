/- A calculus for walks: abstract values and states, sound against the rules of the library. It states nothing of a program. -/
import Derived.Test.YtokikpiffafajaaGreatCore20
namespace Aw
open Go
variable {P : Program} {ops : Array Oper} {y : Code} {id : Nat} {σ : St} {Q : AX → St → Prop}
theorem AW.tV (T : PT) (σf : St) {ob : Prop} {L : List St} (hv : ∀ σ' ∈ L.map St.norm, St.le σf σ') (hk : AW P y σf Q) (hm : P.follows .mixedOrders = true := by kernel_rfl) (hsel : Region.noSelect ops = true := by kernel_rfl)
    (hp : treeOk ops false ops.size T (Array.replicate ops.size false) = true := by kernel_rfl) (hQ : PI Q := by repeat (first | exact Aw.PI.fin | exact Aw.PI.finH | refine Aw.PI.unblock ?_ | refine Aw.PI.andThen ?_))
    (h : runTree P ops.toList (ops.toList.map (·.dst)) T σ = some (ob, L) := by (simp only [go_sem, seval]; try (simp (disch := omega) only [zqa, zqb, zqc, zqd, zqe, zqf, zqg, zqh, zqi, zqj, zqk, zql, zqm, zqn, zqo, zqp, zqq, zqr, zqs]; try (simp only [go_sem, seval]; try (simp (disch := omega) only [zqa, zqb, zqc, zqd, zqe, zqf, zqg, zqh, zqi, zqj, zqk, zql, zqm, zqn, zqo, zqp, zqq, zqr, zqs]; try simp only [go_sem, seval])))); exact rfl) (hob : ob := by ((try (simp only [go_sem, seval]; try (simp (disch := omega) only [zqa, zqb, zqc, zqd, zqe, zqf, zqg, zqh, zqi, zqj, zqk, zql, zqm, zqn, zqo, zqp, zqq, zqr, zqs]; try (simp only [go_sem, seval]; try (simp (disch := omega) only [zqa, zqb, zqc, zqd, zqe, zqf, zqg, zqh, zqi, zqj, zqk, zql, zqm, zqn, zqo, zqp, zqq, zqr, zqs]; try simp only [go_sem, seval]))))); try (first | exact True.intro | omega | (simp only [decide_eq_true_eq, decide_eq_false_iff_not, Bool.cond_false_right, Bool.cond_true_left, Bool.and_eq_true, Bool.or_eq_true, Bool.and_eq_false_iff, Bool.or_eq_false_iff, Bool.not_eq_true', Bool.not_eq_false', Bool.not_eq_eq_eq_not, Bool.not_true, Bool.not_false, beq_true, beq_false, Int.not_lt, Int.not_le, Int.ofNat_lt, Int.ofNat_le]; omega) | (simp; done) | (simp; omega) | (and_intros <;> first | assumption | omega | (simp; done) | (simp; omega))))) : AW P (.seq (.region id ops true) y) σ Q :=
  AW.seqTree T hm hsel hp hQ h hob fun σ' h' => AW.pre (hv σ' h') hk
theorem AW.tGL {σf : St} (T : PT) (h : awTree P ops (fun σ => σ.norm = σf) (fun x σ' => Q (.panic x) σ') T σ) (hk : Q .normal σf) (hm : P.follows .mixedOrders = true := by kernel_rfl) (hsel : Region.noSelect ops = true := by kernel_rfl)
    (hp : treeOk ops false ops.size T (Array.replicate ops.size false) = true := by kernel_rfl) (hQ : PI Q := by repeat (first | exact Aw.PI.fin | exact Aw.PI.finH | refine Aw.PI.unblock ?_ | refine Aw.PI.andThen ?_)) : AW P (.region id ops true) σ Q :=
  AW.drawTreeG T hm hsel hp hQ h hk
end Aw

namespace Aw
open Go
theorem take_strsAV (l : List (List UInt8)) (k : Nat) : List.take k (strsAV l) = strsAV (l.take k) := by simp [strsAV, List.map_take]
theorem drop_strsAV (l : List (List UInt8)) (k : Nat) : List.drop k (strsAV l) = strsAV (l.drop k) := by simp [strsAV, List.map_drop]
theorem app_strsAV (a b : List (List UInt8)) : strsAV a ++ strsAV b = strsAV (a ++ b) := by simp [strsAV]
theorem app1_strsAV (a : List (List UInt8)) (k : List UInt8) : strsAV a ++ [[.str k]] = strsAV (a ++ [k]) := by simp [strsAV]
theorem take_intsAV (l : List Int) (k : Nat) : List.take k (intsAV l) = intsAV (l.take k) := by simp [intsAV, List.map_take]
theorem drop_intsAV (l : List Int) (k : Nat) : List.drop k (intsAV l) = intsAV (l.drop k) := by simp [intsAV, List.map_drop]
theorem app_intsAV (a b : List Int) : intsAV a ++ intsAV b = intsAV (a ++ b) := by simp [intsAV]
theorem app1_intsAV (a : List Int) (k : Int) : intsAV a ++ [[.int .i64 k]] = intsAV (a ++ [k]) := by simp [intsAV]
theorem take_objsAV (l : List Pob) (k : Nat) : List.take k (objsAV l) = objsAV (l.take k) := by simp [objsAV_map, List.map_take]
theorem drop_objsAV (l : List Pob) (k : Nat) : List.drop k (objsAV l) = objsAV (l.drop k) := by simp [objsAV_map, List.map_drop]
theorem app_objsAV (a b : List Pob) : objsAV a ++ objsAV b = objsAV (a ++ b) := by simp [objsAV_map]
theorem app1_objsAV (a : List Pob) (o : Pob) : objsAV a ++ [[.int .i64 o.kind, .int .i64 o.num, .int .i64 o.gen, .str o.str, .sl (strsAV o.keys), .sl (objsAV o.kids)]] = objsAV (a ++ [o]) := by
  rw [objsAV_map a, objsAV_map (a ++ [o]), List.map_append]
  congr 1
  cases o
  rfl
theorem take_itemsAV (l : List Itm) (k : Nat) : List.take k (itemsAV l) = itemsAV (l.take k) := by simp [itemsAV, List.map_take]
theorem drop_itemsAV (l : List Itm) (k : Nat) : List.drop k (itemsAV l) = itemsAV (l.drop k) := by simp [itemsAV, List.map_drop]
theorem app_itemsAV (a b : List Itm) : itemsAV a ++ itemsAV b = itemsAV (a ++ b) := by simp [itemsAV]
theorem take_len2 {α : Type} (a : List α) (x : α) (b : List α) : List.take (a.length + 1 + b.length) (List.take (a.length + 1) (a ++ [x]) ++ b) = a ++ [x] ++ b := by
  rw [List.take_of_length_le (l := a ++ [x]) (by simp), List.take_of_length_le (by simp; omega)]
theorem take_len1 {α : Type} (a : List α) (x : α) : List.take (a.length + 1) (a ++ [x]) = a ++ [x] := List.take_of_length_le (by simp)
end Aw
