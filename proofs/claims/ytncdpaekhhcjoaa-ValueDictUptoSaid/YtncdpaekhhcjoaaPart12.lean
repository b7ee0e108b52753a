/- A part of the proof of a law of the seat: no condition of its own. -/
import Derived.Test.YtncdpaekhhcjoaaPart11
namespace Go.Proofs
open Go Aw
set_option linter.unusedSimpArgs false
set_option linter.unusedVariables false
set_option maxRecDepth 100000
set_option maxHeartbeats 4000000

attribute [local go_sem] List.getD_cons_zero List.length_cons List.length_nil
def smallO : Pob := .mk 7 0 0 [] [[65], [66]] [.mk 2 1 0 [] [] [], .mk 6 0 0 [] [] [.mk 8 5 0 [] [] [], .mk 0 0 0 [] [] []]]
theorem c_law05_Small (gl : List (Nat × AV))  : FnP Try.prog (gl) 77 [] fun r => r = .ret (.agg smallO.cells) := by
  refine FnP.intro Try.func77 rfl rfl (by simp [Try.ntmps77]) ?_
  simp only [argEnv, Try.ntmps77, Try.results77]
  refine AW.rS ?_
  refine AW.rS ?_
  refine AW.rt ?_
  all_goals first | contradiction | rfl | (simp; done) | (simp; omega)
def lqP : List Pob := [nameO [66], arrO [refO 5 0, Pob.null], nameO [67], Pob.null, nameO [65], intO 1]
def lqS : Pob := streamO smallO [120, 121, 122]
def lqT : Pob := setO smallO [67] (realO 5)
def lqR : Pob := smallO.swap [5] [7]
theorem lw1 : dictO lqP = smallO := by decide +kernel
theorem lw2 : dictE lqP = 0 := by decide +kernel
theorem lw3 : dictE [nameO [65]] = 1 := by decide +kernel
theorem lw4 : dictE [intO 1, intO 1] = 1 := by decide +kernel
theorem lw5 : dictE [nameO [65], intO 1, nameO [65], Pob.null] = 9 := by decide +kernel
theorem lw6 : (streamO smallO [120, 121, 122]).kind = 9 := by decide +kernel
theorem lw7 : (streamO smallO [120, 121, 122]).str = [120, 121, 122] := by decide +kernel
theorem lw8 : streamE smallO [120, 121, 122] = 0 := by decide +kernel
theorem lw9 : streamE (intO 1) [] = 10 := by decide +kernel
theorem lw10 : setE lqS [76, 101, 110, 103, 116, 104] (intO 3) = 3 := by decide +kernel
theorem lw11 : setE smallO [67] (realO 5) = 0 := by decide +kernel
theorem lw12 : setE smallO [67] lqS = 10 := by decide +kernel
theorem lw13 : setE (intO 1) [67] (intO 1) = 10 := by decide +kernel
theorem lw14 : getB lqT [67] = true := by decide +kernel
theorem lw15 : getO lqT [67] = realO 5 := by decide +kernel
theorem lw16 : getB smallO [67] = false := by decide +kernel
theorem lw17 : numI (intO (-3)) = -30000 := by decide +kernel
theorem lw18 : numB (intO (-3)) = true := by decide +kernel
theorem lw19 : numB (intO 107375) = false := by decide +kernel
theorem lw20 : numB (strO [49]) = false := by decide +kernel
theorem lw21 : smallO.depth = 3 := by decide +kernel
theorem lw22 : dropO lqT [67] = smallO := by decide +kernel
theorem lw23 : ¬ lqT = smallO := by decide +kernel
theorem lw24 : lqR.pre.foldl refStp [] = [7] := by decide +kernel
theorem lw25 : refsO lqR = [7] := by rw [refsO, lw24]; simp [sortI]
theorem lw26 : chk smallO 1 = 0 := by decide +kernel
theorem lw27 : chk (Pob.mk 10 0 0 [] [] []) 1 = 10 := by decide +kernel
theorem lw28 : chk (boolO true) 1 = 0 := by decide +kernel
theorem lw29 : chk (Pob.mk 1 2 0 [] [] []) 1 = 2 := by decide +kernel
theorem lw30 : chk (Pob.mk 2 0 0 [120] [] []) 1 = 10 := by decide +kernel
theorem lw31 : chk (arrO [streamO smallO [120, 121, 122]]) 1 = 10 := by decide +kernel
theorem lw32 : chk (nameO [97, 0]) 1 = 3 := by decide +kernel
theorem lw33 : chk (refO 0 0) 1 = 2 := by decide +kernel
theorem lw34 : chk (Pob.mk 7 0 0 [] [[65]] []) 1 = 3 := by decide +kernel
theorem lw_one (o : Pob) : objsAV [o] = [[.int .i64 o.kind, .int .i64 o.num, .int .i64 o.gen, .str o.str, .sl (strsAV o.keys), .sl (objsAV o.kids)]] := by cases o; rfl
theorem c_lwArr (gl : List (Nat × AV)) (o : Pob) (h : objsAV [o] = [[.int .i64 o.kind, .int .i64 o.num, .int .i64 o.gen, .str o.str, .sl (strsAV o.keys), .sl (objsAV o.kids)]]) (hb : (arrO [o]).bulk ≤ 16777216) : FnP Try.prog gl 78 [.sl [[.int .i64 o.kind, .int .i64 o.num, .int .i64 o.gen, .str o.str, .sl (strsAV o.keys), .sl (objsAV o.kids)]]] fun r => r = .ret (.agg (arrO [o]).cells) := by
  rw [← h]
  exact c_value_Array gl [o] hb
theorem c_law05_lives (gl : List (Nat × AV))  : FnP Try.prog (gl) 38 [] fun r => r = .ret (.bool true) := by
  refine FnP.intro Try.func38 rfl rfl (by simp [Try.ntmps38]) ?_
  simp only [argEnv, Try.ntmps38, Try.results38]
  refine AW.rS ?_
  refine AW.trim [] ?_
  refine AW.rSC ?_
  refine awOps.cons (awGuard.c1 (c_law05_Small _) ?_)
  refine awOps.rn ?_
  refine AW.trim [1] ?_
  refine AW.rSC ?_
  refine awOps.cons (awGuard.c1 (c_value_Name _ [66]) ?_)
  refine awOps.rn ?_
  refine awOps.cons (awGuard.c1 (c_value_Ref _ 5 0) ?_)
  refine awOps.rn ?_
  refine awOps.cons (awGuard.c1 (c_value_Null _) ?_)
  refine awOps.rn ?_
  refine awOps.cons (awGuard.c1 (c_value_Array _ [refO 5 0, Pob.null] (by decide +kernel)) ?_)
  refine awOps.rn ?_
  refine awOps.cons (awGuard.c1 (c_value_Name _ [67]) ?_)
  refine awOps.rn ?_
  refine awOps.cons (awGuard.c1 (c_value_Null _) ?_)
  refine awOps.rn ?_
  refine awOps.cons (awGuard.c1 (c_value_Name _ [65]) ?_)
  refine awOps.rn ?_
  refine awOps.cons (awGuard.c1 (c_value_Int _ 1) ?_)
  refine awOps.rn ?_
  refine awOps.cons (awGuard.c1 (c_value_Dict _ lqP (by decide +kernel)) ?_)
  refine awOps.rn ?_
  refine AW.trim [1, 2, 3] ?_
  refine AW.rSC ?_
  refine awOps.cons (awGuard.c1 (c_value_Name _ [65]) ?_)
  refine awOps.rn ?_
  refine awOps.cons (awGuard.c1 (c_value_Dict _ [nameO [65]] (by decide +kernel)) ?_)
  refine awOps.rn ?_
  refine AW.trim [1, 2, 3, 5] ?_
  refine AW.rSC ?_
  refine awOps.cons (awGuard.c1 (c_value_Int _ 1) ?_)
  refine awOps.rn ?_
  refine awOps.cons (awGuard.c1 (c_value_Int _ 1) ?_)
  refine awOps.rn ?_
  refine awOps.cons (awGuard.c1 (c_value_Dict _ [intO 1, intO 1] (by decide +kernel)) ?_)
  refine awOps.rn ?_
  refine AW.trim [1, 2, 3, 5, 7] ?_
  refine AW.rSC ?_
  refine awOps.cons (awGuard.c1 (c_value_Name _ [65]) ?_)
  refine awOps.rn ?_
  refine awOps.cons (awGuard.c1 (c_value_Int _ 1) ?_)
  refine awOps.rn ?_
  refine awOps.cons (awGuard.c1 (c_value_Name _ [65]) ?_)
  refine awOps.rn ?_
  refine awOps.cons (awGuard.c1 (c_value_Null _) ?_)
  refine awOps.rn ?_
  refine awOps.cons (awGuard.c1 (c_value_Dict _ [nameO [65], intO 1, nameO [65], Pob.null] (by decide +kernel)) ?_)
  refine awOps.rn ?_
  refine AW.trim [1, 2, 3, 5, 7, 9] ?_
  refine AW.rSC ?_
  refine awOps.cons (awGuard.c1 (c_value_Stream _ smallO [120, 121, 122] (by decide +kernel)) ?_)
  refine awOps.rn ?_
  refine AW.trim [1, 2, 3, 5, 7, 9, 10, 11] ?_
  refine AW.rSC ?_
  refine awOps.cons (awGuard.c1 (c_value_Int _ 1) ?_)
  refine awOps.rn ?_
  refine awOps.cons (awGuard.c1 (c_value_Stream _ (intO 1) [] (by decide +kernel)) ?_)
  refine awOps.rn ?_
  refine AW.trim [1, 2, 3, 5, 7, 9, 10, 11, 13] ?_
  refine AW.tG (σf := ?sf8) (.fork 0 (.fork 1 (.fork 2 (.take 3 0 (.take 4 0 (.take 5 0 (.fork 6 (.fork 7 (.take 8 0 .done) .stop) .stop)))) (.fork 6 (.fork 2 (.take 3 0 (.take 4 0 (.take 5 0 (.fork 7 (.take 8 0 .done) .stop)))) .stop) .stop)) (.fork 6 (.fork 1 (.fork 2 (.take 3 0 (.take 4 0 (.take 5 0 (.fork 7 (.take 8 0 .done) .stop)))) .stop) .stop) .stop)) (.fork 1 (.fork 0 (.fork 2 (.take 3 0 (.take 4 0 (.take 5 0 (.fork 6 (.fork 7 (.take 8 0 .done) .stop) .stop)))) (.fork 6 (.fork 2 (.take 3 0 (.take 4 0 (.take 5 0 (.fork 7 (.take 8 0 .done) .stop)))) .stop) .stop)) (.fork 6 (.fork 0 (.fork 2 (.take 3 0 (.take 4 0 (.take 5 0 (.fork 7 (.take 8 0 .done) .stop)))) .stop) .stop) .stop)) (.fork 6 (.fork 0 (.fork 1 (.fork 2 (.take 3 0 (.take 4 0 (.take 5 0 (.fork 7 (.take 8 0 .done) .stop)))) .stop) .stop) (.fork 1 (.fork 0 (.fork 2 (.take 3 0 (.take 4 0 (.take 5 0 (.fork 7 (.take 8 0 .done) .stop)))) .stop) .stop) .stop)) .stop))) ?tree8 ?rest8
  case tree8 =>
    refine awTree.fA ?_ ?_
    · refine awTree.fC (c_value_Int _ 3) ?_ ?_
      · refine awTree.fC (c_value_Set _ lqS [76, 101, 110, 103, 116, 104] (intO 3) (by decide +kernel)) ?_ ?_
        · refine awTree.tk ?_
          refine awTree.tk ?_
          refine awTree.tk ?_
          refine awTree.fA ?_ ?_
          · refine awTree.fA ?_ ?_
            · refine awTree.tk ?_
              exact awTree.dn
            · exact trivial
          · exact trivial
        · refine awTree.fA ?_ ?_
          · refine awTree.fC (c_value_Set _ lqS [76, 101, 110, 103, 116, 104] (intO 3) (by decide +kernel)) ?_ ?_
            · refine awTree.tk ?_
              refine awTree.tk ?_
              refine awTree.tk ?_
              refine awTree.fA ?_ ?_
              · refine awTree.tk ?_
                exact awTree.dn
              · exact trivial
            · exact trivial
          · exact trivial
      · refine awTree.fA ?_ ?_
        · refine awTree.fC (c_value_Int _ 3) ?_ ?_
          · refine awTree.fC (c_value_Set _ lqS [76, 101, 110, 103, 116, 104] (intO 3) (by decide +kernel)) ?_ ?_
            · refine awTree.tk ?_
              refine awTree.tk ?_
              refine awTree.tk ?_
              refine awTree.fA ?_ ?_
              · refine awTree.tk ?_
                exact awTree.dn
              · exact trivial
            · exact trivial
          · exact trivial
        · exact trivial
    · refine awTree.fC (c_value_Int _ 3) ?_ ?_
      · refine awTree.fA ?_ ?_
        · refine awTree.fC (c_value_Set _ lqS [76, 101, 110, 103, 116, 104] (intO 3) (by decide +kernel)) ?_ ?_
          · refine awTree.tk ?_
            refine awTree.tk ?_
            refine awTree.tk ?_
            refine awTree.fA ?_ ?_
            · refine awTree.fA ?_ ?_
              · refine awTree.tk ?_
                exact awTree.dn
              · exact trivial
            · exact trivial
          · refine awTree.fA ?_ ?_
            · refine awTree.fC (c_value_Set _ lqS [76, 101, 110, 103, 116, 104] (intO 3) (by decide +kernel)) ?_ ?_
              · refine awTree.tk ?_
                refine awTree.tk ?_
                refine awTree.tk ?_
                refine awTree.fA ?_ ?_
                · refine awTree.tk ?_
                  exact awTree.dn
                · exact trivial
              · exact trivial
            · exact trivial
        · refine awTree.fA ?_ ?_
          · refine awTree.fA ?_ ?_
            · refine awTree.fC (c_value_Set _ lqS [76, 101, 110, 103, 116, 104] (intO 3) (by decide +kernel)) ?_ ?_
              · refine awTree.tk ?_
                refine awTree.tk ?_
                refine awTree.tk ?_
                refine awTree.fA ?_ ?_
                · refine awTree.tk ?_
                  exact awTree.dn
                · exact trivial
              · exact trivial
            · exact trivial
          · exact trivial
      · refine awTree.fA ?_ ?_
        · refine awTree.fA ?_ ?_
          · refine awTree.fC (c_value_Int _ 3) ?_ ?_
            · refine awTree.fC (c_value_Set _ lqS [76, 101, 110, 103, 116, 104] (intO 3) (by decide +kernel)) ?_ ?_
              · refine awTree.tk ?_
                refine awTree.tk ?_
                refine awTree.tk ?_
                refine awTree.fA ?_ ?_
                · refine awTree.tk ?_
                  exact awTree.dn
                · exact trivial
              · exact trivial
            · exact trivial
          · refine awTree.fC (c_value_Int _ 3) ?_ ?_
            · refine awTree.fA ?_ ?_
              · refine awTree.fC (c_value_Set _ lqS [76, 101, 110, 103, 116, 104] (intO 3) (by decide +kernel)) ?_ ?_
                · refine awTree.tk ?_
                  refine awTree.tk ?_
                  refine awTree.tk ?_
                  refine awTree.fA ?_ ?_
                  · refine awTree.tk ?_
                    exact awTree.dn
                  · exact trivial
                · exact trivial
              · exact trivial
            · exact trivial
        · exact trivial
  skip
  skip
  skip
  skip
  skip
  skip
  skip
  refine AW.trim [1, 2, 3, 5, 7, 9, 10, 11, 13, 15] ?_
  refine AW.tG (σf := ?sf9) (.fork 0 (.fork 1 (.fork 2 (.take 3 0 (.take 4 0 (.take 5 0 (.fork 6 (.fork 7 (.take 8 0 .done) .stop) .stop)))) (.fork 6 (.fork 2 (.take 3 0 (.take 4 0 (.take 5 0 (.fork 7 (.take 8 0 .done) .stop)))) .stop) .stop)) (.fork 6 (.fork 1 (.fork 2 (.take 3 0 (.take 4 0 (.take 5 0 (.fork 7 (.take 8 0 .done) .stop)))) .stop) .stop) .stop)) (.fork 1 (.fork 0 (.fork 2 (.take 3 0 (.take 4 0 (.take 5 0 (.fork 6 (.fork 7 (.take 8 0 .done) .stop) .stop)))) (.fork 6 (.fork 2 (.take 3 0 (.take 4 0 (.take 5 0 (.fork 7 (.take 8 0 .done) .stop)))) .stop) .stop)) (.fork 6 (.fork 0 (.fork 2 (.take 3 0 (.take 4 0 (.take 5 0 (.fork 7 (.take 8 0 .done) .stop)))) .stop) .stop) .stop)) (.fork 6 (.fork 0 (.fork 1 (.fork 2 (.take 3 0 (.take 4 0 (.take 5 0 (.fork 7 (.take 8 0 .done) .stop)))) .stop) .stop) (.fork 1 (.fork 0 (.fork 2 (.take 3 0 (.take 4 0 (.take 5 0 (.fork 7 (.take 8 0 .done) .stop)))) .stop) .stop) .stop)) .stop))) ?tree9 ?rest9
  case tree9 =>
    refine awTree.fA ?_ ?_
    · refine awTree.fC (c_value_Real _ 5) ?_ ?_
      · refine awTree.fC (c_value_Set _ smallO [67] (realO 5) (by decide +kernel)) ?_ ?_
        · refine awTree.tk ?_
          refine awTree.tk ?_
          refine awTree.tk ?_
          refine awTree.fA ?_ ?_
          · refine awTree.fA ?_ ?_
            · refine awTree.tk ?_
              exact awTree.dn
            · exact trivial
          · exact trivial
        · refine awTree.fA ?_ ?_
          · refine awTree.fC (c_value_Set _ smallO [67] (realO 5) (by decide +kernel)) ?_ ?_
            · refine awTree.tk ?_
              refine awTree.tk ?_
              refine awTree.tk ?_
              refine awTree.fA ?_ ?_
              · refine awTree.tk ?_
                exact awTree.dn
              · exact trivial
            · exact trivial
          · exact trivial
      · refine awTree.fA ?_ ?_
        · refine awTree.fC (c_value_Real _ 5) ?_ ?_
          · refine awTree.fC (c_value_Set _ smallO [67] (realO 5) (by decide +kernel)) ?_ ?_
            · refine awTree.tk ?_
              refine awTree.tk ?_
              refine awTree.tk ?_
              refine awTree.fA ?_ ?_
              · refine awTree.tk ?_
                exact awTree.dn
              · exact trivial
            · exact trivial
          · exact trivial
        · exact trivial
    · refine awTree.fC (c_value_Real _ 5) ?_ ?_
      · refine awTree.fA ?_ ?_
        · refine awTree.fC (c_value_Set _ smallO [67] (realO 5) (by decide +kernel)) ?_ ?_
          · refine awTree.tk ?_
            refine awTree.tk ?_
            refine awTree.tk ?_
            refine awTree.fA ?_ ?_
            · refine awTree.fA ?_ ?_
              · refine awTree.tk ?_
                exact awTree.dn
              · exact trivial
            · exact trivial
          · refine awTree.fA ?_ ?_
            · refine awTree.fC (c_value_Set _ smallO [67] (realO 5) (by decide +kernel)) ?_ ?_
              · refine awTree.tk ?_
                refine awTree.tk ?_
                refine awTree.tk ?_
                refine awTree.fA ?_ ?_
                · refine awTree.tk ?_
                  exact awTree.dn
                · exact trivial
              · exact trivial
            · exact trivial
        · refine awTree.fA ?_ ?_
          · refine awTree.fA ?_ ?_
            · refine awTree.fC (c_value_Set _ smallO [67] (realO 5) (by decide +kernel)) ?_ ?_
              · refine awTree.tk ?_
                refine awTree.tk ?_
                refine awTree.tk ?_
                refine awTree.fA ?_ ?_
                · refine awTree.tk ?_
                  exact awTree.dn
                · exact trivial
              · exact trivial
            · exact trivial
          · exact trivial
      · refine awTree.fA ?_ ?_
        · refine awTree.fA ?_ ?_
          · refine awTree.fC (c_value_Real _ 5) ?_ ?_
            · refine awTree.fC (c_value_Set _ smallO [67] (realO 5) (by decide +kernel)) ?_ ?_
              · refine awTree.tk ?_
                refine awTree.tk ?_
                refine awTree.tk ?_
                refine awTree.fA ?_ ?_
                · refine awTree.tk ?_
                  exact awTree.dn
                · exact trivial
              · exact trivial
            · exact trivial
          · refine awTree.fC (c_value_Real _ 5) ?_ ?_
            · refine awTree.fA ?_ ?_
              · refine awTree.fC (c_value_Set _ smallO [67] (realO 5) (by decide +kernel)) ?_ ?_
                · refine awTree.tk ?_
                  refine awTree.tk ?_
                  refine awTree.tk ?_
                  refine awTree.fA ?_ ?_
                  · refine awTree.tk ?_
                    exact awTree.dn
                  · exact trivial
                · exact trivial
              · exact trivial
            · exact trivial
        · exact trivial
  skip
  skip
  skip
  skip
  skip
  skip
  skip
  refine AW.trim [1, 2, 3, 5, 7, 9, 10, 11, 13, 15, 16, 17] ?_
  refine AW.rSC ?_
  refine awOps.cons (awGuard.c1 (c_value_Set _ smallO [67] lqS (by decide +kernel)) ?_)
  refine awOps.rn ?_
  refine AW.trim [1, 2, 3, 5, 7, 9, 10, 11, 13, 15, 16, 17, 19] ?_
  refine AW.rSC ?_
  refine awOps.cons (awGuard.c1 (c_value_Int _ 1) ?_)
  refine awOps.rn ?_
  refine awOps.cons (awGuard.c1 (c_value_Int _ 1) ?_)
  refine awOps.rn ?_
  refine awOps.cons (awGuard.c1 (c_value_Set _ (intO 1) [67] (intO 1) (by decide +kernel)) ?_)
  refine awOps.rn ?_
  refine AW.trim [1, 2, 3, 5, 7, 9, 10, 11, 13, 15, 16, 17, 19, 21] ?_
  refine AW.rSC ?_
  refine awOps.cons (awGuard.c1 (c_value_Get _ lqT [67] (by decide +kernel)) ?_)
  refine awOps.rn ?_
  refine AW.trim [1, 2, 3, 5, 7, 9, 10, 11, 13, 15, 16, 17, 19, 21, 22, 23] ?_
  refine AW.rSC ?_
  refine awOps.cons (awGuard.c1 (c_value_Get _ smallO [67] (by decide +kernel)) ?_)
  refine awOps.rn ?_
  refine AW.trim [1, 2, 3, 5, 7, 9, 10, 11, 13, 15, 16, 17, 19, 21, 22, 23, 25] ?_
  refine AW.rSC ?_
  refine awOps.cons (awGuard.c1 (c_value_Int _ (-3)) ?_)
  refine awOps.rn ?_
  refine awOps.cons (awGuard.c1 (c_value_Number _ (intO (-3)) (by decide +kernel)) ?_)
  refine awOps.rn ?_
  refine AW.trim [1, 2, 3, 5, 7, 9, 10, 11, 13, 15, 16, 17, 19, 21, 22, 23, 25, 26, 27] ?_
  refine AW.rSC ?_
  refine awOps.cons (awGuard.c1 (c_value_Int _ 107375) ?_)
  refine awOps.rn ?_
  refine awOps.cons (awGuard.c1 (c_value_Number _ (intO 107375) (by decide +kernel)) ?_)
  refine awOps.rn ?_
  refine AW.trim [1, 2, 3, 5, 7, 9, 10, 11, 13, 15, 16, 17, 19, 21, 22, 23, 25, 26, 27, 29] ?_
  refine AW.rSC ?_
  refine awOps.cons (awGuard.c1 (c_value_String _ [49]) ?_)
  refine awOps.rn ?_
  refine awOps.cons (awGuard.c1 (c_value_Number _ (strO [49]) (by decide +kernel)) ?_)
  refine awOps.rn ?_
  refine AW.trim [1, 2, 3, 5, 7, 9, 10, 11, 13, 15, 16, 17, 19, 21, 22, 23, 25, 26, 27, 29, 31] ?_
  refine AW.seq ?_
  refine AW.rSC ?_
  refine awOps.cons (awGuard.c1 (c_value_Same _ (dictO lqP) smallO (by decide +kernel)) ?_)
  refine awOps.rn ?_
  refine AW.trim [1, 10, 16, 22, 23, 25, 26, 27, 29, 31, 183] ?_
  refine AW.c2 ?_ ?_
  · intro h106
    exfalso
    simp only [lw1, lw2, lw3, lw4, lw5, lw6, lw7, lw8, lw9, lw10, lw11, lw12, lw13] at h106
    revert h106
    decide
  · intro h106
    refine AW.skip ?_
    refine AW.seq ?_
    refine AW.fS [0, 1, 2, 3, 4, 5, 6, 7, 8, 9, 10, 11, 12, 13, 14, 15, 16, 17, 18, 19, 20, 21, 22, 23, 24, 25, 26, 27, 28, 29, 30, 31, 32, 33, 34, 35, 37, 36, 38, 39, 40, 41, 42, 44, 43, 45, 46, 47, 48, 49, 50, 51, 52] [] ?_
    refine awFun.rn ?_
    refine awFun.cG [213, 214] (fun hg => c_value_Depth _ smallO (by decide +kernel)) ?_
    refine awFun.rn ?_
    refine awFun.cG [218, 219] (fun hg => c_value_Drop _ lqT [67] (by decide +kernel)) ?_
    refine awFun.rn ?_
    refine awFun.cG [218, 220, 221] (fun hg => c_value_Same _ (dropO lqT [67]) smallO (by decide +kernel)) ?_
    refine awFun.rn ?_
    refine awFun.cG [225, 226] (fun hg => c_value_Clone _ smallO (by decide +kernel)) ?_
    refine awFun.rn ?_
    refine awFun.cG [225, 227, 228] (fun hg => c_value_Same _ smallO smallO (by decide +kernel)) ?_
    refine awFun.rn ?_
    refine awFun.cG [232, 233, 234] (fun hg => c_value_Same _ lqT smallO (by decide +kernel)) ?_
    refine awFun.rn ?_
    rw [Aw.awFun_nil, Aw.awPlan_nil]
    refine AW.trim [1, 10, 236] ?_
    refine AW.c2 ?_ ?_
    · intro h127
      exfalso
      simp only [lw14, lw15, lw16, lw17, lw18, lw19, lw20, lw21, lw22, lw23] at h127
      revert h127
      decide
    · intro h127
      refine AW.skip ?_
      refine AW.rSC ?_
      refine awOps.cons (awGuard.c1 (c_value_Swap _ smallO [5] [7] (by decide +kernel) (by decide +kernel) (by decide +kernel)) ?_)
      refine awOps.rn ?_
      refine AW.trim [1, 10, 32] ?_
      refine AW.rSC ?_
      refine awOps.cons (awGuard.c1 (c_value_Refs _ lqR (by decide +kernel)) ?_)
      refine awOps.rn ?_
      refine AW.trim [1, 10, 33] ?_
      rw [lw25, show intsAV [7] = [[.int .i64 7]] from rfl]
      refine AW.rSC ?_
      refine awOps.cons (awGuard.cG (fun hg => c_value_Check _ smallO (by decide +kernel)) ?_)
      refine awOps.rn ?_
      refine awOps.cons (awGuard.gT ?_)
      refine awOps.rn ?_
      refine awOps.cons (awGuard.cG (fun hg => c_value_Check _ (Pob.mk 10 0 0 [] [] []) (by decide +kernel)) ?_)
      refine awOps.rn ?_
      refine awOps.cons (awGuard.cG (fun hg => c_value_Bool _ true) ?_)
      refine awOps.rn ?_
      refine awOps.cons (awGuard.cG (fun hg => c_value_Check _ (boolO true) (by decide +kernel)) ?_)
      refine awOps.rn ?_
      refine awOps.cons (awGuard.gT ?_)
      refine awOps.rn ?_
      refine awOps.cons (awGuard.cG (fun hg => c_value_Check _ (Pob.mk 1 2 0 [] [] []) (by decide +kernel)) ?_)
      refine awOps.rn ?_
      refine awOps.cons (awGuard.gT ?_)
      refine awOps.rn ?_
      refine awOps.cons (awGuard.cG (fun hg => c_value_Check _ (Pob.mk 2 0 0 [120] [] []) (by decide +kernel)) ?_)
      refine awOps.rn ?_
      refine awOps.cons (awGuard.gT (hob := by simp only [go_sem, seval]; decide +kernel) ?_)
      refine awOps.rn ?_
      refine awOps.cons (awGuard.cT (c_lwArr _ (streamO smallO [120, 121, 122]) (lw_one _) (by decide +kernel)) ?_)
      refine awOps.rn ?_
      refine awOps.cons (awGuard.cG (fun hg => c_value_Check _ (arrO [streamO smallO [120, 121, 122]]) (by decide +kernel)) ?_)
      refine awOps.rn ?_
      refine awOps.cons (awGuard.cG (fun hg => c_value_Name _ [97, 0]) ?_)
      refine awOps.rn ?_
      refine awOps.cons (awGuard.cG (fun hg => c_value_Check _ (nameO [97, 0]) (by decide +kernel)) ?_)
      refine awOps.rn ?_
      refine awOps.cons (awGuard.cG (fun hg => c_value_Ref _ 0 0 (by decide +kernel)) ?_)
      refine awOps.rn ?_
      refine awOps.cons (awGuard.cG (fun hg => c_value_Check _ (refO 0 0) (by decide +kernel)) ?_)
      refine awOps.rn ?_
      refine awOps.cons (awGuard.gT ?_)
      refine awOps.rn ?_
      refine awOps.cons (awGuard.gT ?_)
      refine awOps.rn ?_
      refine awOps.cons (awGuard.cT (c_value_Check _ (Pob.mk 7 0 0 [] [[65]] []) (by decide +kernel)) ?_)
      refine awOps.rn ?_
      refine AW.trim [0] ?_
      refine AW.rt ?_
      rw [lw26, lw27, lw28, lw29, lw30, lw31, lw32, lw33, lw34]
      rfl
end Go.Proofs

namespace Aw
open Go
def flatKV (l : List (List UInt8 × Pob)) : List Pob := l.flatMap fun p => [nameO p.1, p.2]
theorem setAdd_mem {α : Type} [DecidableEq α] {s : List α} {k x : α} : x ∈ setAdd s k ↔ x ∈ s ∨ x = k := by
  unfold setAdd
  split
  · rename_i h
    constructor
    · exact .inl
    · rintro (g | rfl)
      · exact g
      · exact h
  · simp
theorem dictL_flat : ∀ (l : List (List UInt8 × Pob)) (met : List (List UInt8)) (o : Pob), (∀ p ∈ l, p.2.kind ≠ 0) → (l.map (·.1)).Nodup → (∀ p ∈ l, p.1 ∉ met) → o.kvOk →
    ∃ x, dictL (flatKV l) met o = some x ∧ x.kvOk ∧ (x.kind = o.kind ∧ x.num = o.num ∧ x.gen = o.gen ∧ x.str = o.str) ∧ ∀ k v, x.has k v ↔ (k, v) ∈ l ∨ ((∀ p ∈ l, p.1 ≠ k) ∧ o.has k v)
  | [], met, o, _, _, _, hs => by
    refine ⟨o, by simp only [flatKV, List.flatMap_nil, dictL], hs, ⟨rfl, rfl, rfl, rfl⟩, fun k v => ?_⟩
    simp
  | (k0, v0) :: l, met, o, h1, h2, h3, hs => by
    have hm : k0 ∉ met := h3 (k0, v0) List.mem_cons_self
    rw [List.map_cons, List.nodup_cons] at h2
    have h21 : k0 ∉ l.map (·.1) := h2.1
    obtain ⟨x, e, hx, f, hh⟩ := dictL_flat l (setAdd met k0) (o.withK k0 v0) (fun p hp => h1 p (List.mem_cons_of_mem _ hp)) h2.2
      (fun p hp hin => by
        rcases setAdd_mem.1 hin with g | g
        · exact h3 p (List.mem_cons_of_mem _ hp) g
        · exact h21 (by rw [← g]; exact List.mem_map_of_mem (f := fun p : List UInt8 × Pob => p.1) hp)) (withK_kvOk hs _ _)
    have hv : v0.kind ≠ 0 := h1 (k0, v0) List.mem_cons_self
    obtain ⟨g1, g2, g3, g4⟩ := withK_frame o k0 v0
    obtain ⟨f1, f2, f3, f4⟩ := f
    refine ⟨x, ?_, hx, ⟨f1.trans g1, f2.trans g2, f3.trans g3, f4.trans g4⟩, fun k v => ?_⟩
    · have : flatKV ((k0, v0) :: l) = nameO k0 :: v0 :: flatKV l := rfl
      rw [this]
      simp only [dictL]
      have hn : (nameO k0).str = k0 := rfl
      rw [hn, if_neg hm, if_pos hv]
      exact e
    · rw [hh, has_withK hs]
      have hkl : ∀ w, (k0, w) ∉ l := fun w hw => h21 (List.mem_map_of_mem (f := (·.1)) hw)
      constructor
      · rintro (g | ⟨g, ⟨rfl, rfl⟩ | ⟨g5, g6⟩⟩)
        · exact .inl (List.mem_cons_of_mem _ g)
        · exact .inl List.mem_cons_self
        · refine .inr ⟨fun p hp => ?_, g6⟩
          rcases List.mem_cons.1 hp with e | hp
          · rw [e]; exact fun e => g5 e.symm
          · exact g p hp
      · rintro (g | ⟨g, g6⟩)
        · rcases List.mem_cons.1 g with g | g
          · injection g with a b
            subst a b
            refine .inr ⟨fun p hp e => h21 ?_, .inl ⟨rfl, rfl⟩⟩
            rw [← e]
            exact List.mem_map_of_mem (f := fun p : List UInt8 × Pob => p.1) hp
          · exact .inl g
        · exact .inr ⟨fun p hp => g p (List.mem_cons_of_mem _ hp), .inr ⟨fun e => g (k0, v0) List.mem_cons_self e.symm, g6⟩⟩
theorem dictArg_flat (l : List (List UInt8 × Pob)) : dictArg (flatKV l) = true := by
  have hl : ∀ l, (flatKV l).length = 2 * l.length := by
    intro l
    induction l with
    | nil => rfl
    | cons p l ih => simp only [flatKV, List.flatMap_cons, List.length_append, List.length_cons, List.length_nil] at ih ⊢; omega
  have hk : ∀ (l : List (List UInt8 × Pob)) (i : Nat), i < (flatKV l).length → i % 2 = 0 → ((flatKV l).getD i Pob.null).kind = 5 := by
    intro l
    induction l with
    | nil => intro i hi; simp [flatKV] at hi
    | cons p l ih =>
      intro i hi h2
      have e : flatKV (p :: l) = nameO p.1 :: p.2 :: flatKV l := rfl
      rw [e] at hi ⊢
      match i, h2, hi with
      | 0, _, _ => rfl
      | 1, h2, _ => omega
      | i + 2, h2, hi =>
        simp only [List.getD_cons_succ]
        exact ih i (by simpa using hi) (by omega)
  simp only [dictArg, Bool.and_eq_true, decide_eq_true_eq]
  exact ⟨by rw [hl]; omega, hk l⟩
def rot (n t j : Nat) : Nat := (j + t) % n
theorem rot_eq {n t j : Nat} (ht : t < n) (hj : j < n) : rot n t j = if j + t < n then j + t else j + t - n := by
  unfold rot
  split
  · rename_i h; exact Nat.mod_eq_of_lt h
  · rw [Nat.mod_eq_sub_mod (by omega), Nat.mod_eq_of_lt (by omega)]
/-- the first 'i' pairs, from the 't'-th on -/
def rotP (o : Pob) (t i : Nat) : List (List UInt8 × Pob) := (List.range i).map fun j => (o.keys.getD (rot o.keys.length t j) [], o.kids.getD (rot o.keys.length t j) Pob.null)
def rotL (o : Pob) (t i : Nat) : List Pob := flatKV (rotP o t i)
theorem rotL_succ (o : Pob) (t i : Nat) : rotL o t (i + 1) = rotL o t i ++ [nameO (o.keys.getD (rot o.keys.length t i) []), o.kids.getD (rot o.keys.length t i) Pob.null] := by
  simp [rotL, rotP, List.range_succ, flatKV]
theorem rotL_zero (o : Pob) (t : Nat) : rotL o t 0 = [] := rfl
theorem rotL_length (o : Pob) (t i : Nat) : (rotL o t i).length = 2 * i := by
  induction i with
  | zero => rfl
  | succ i ih => rw [rotL_succ, List.length_append, ih]; simp; omega
theorem dict_rot {o : Pob} (h : chk o 1 = 0) (hk : o.kind = 7) {t : Nat} (ht : t < o.keys.length ∨ o.keys.length = 0) : dictE (rotL o t o.keys.length) = 0 ∧ dictO (rotL o t o.keys.length) = o := by
  have hk' : keyedB o.kind = true := by simp [keyedB, hk]
  obtain ⟨⟨_, h2, h3, h4, _⟩, hs, h8⟩ := (chk_keyed hk').1 h
  have hmem : ∀ k v, (k, v) ∈ rotP o t o.keys.length ↔ o.has k v := by
    intro k v
    simp only [rotP, List.mem_map, List.mem_range, Prod.mk.injEq]
    constructor
    · rintro ⟨j, hj, e1, e2⟩
      refine ⟨_, ?_, e1, e2⟩
      rw [rot_eq (by omega) hj]
      split <;> omega
    · rintro ⟨i, hi, e1, e2⟩
      by_cases g : t ≤ i
      · refine ⟨i - t, by omega, ?_, ?_⟩ <;> rw [rot_eq (by omega) (by omega), if_pos (by omega), Nat.sub_add_cancel g] <;> assumption
      · refine ⟨i + o.keys.length - t, by omega, ?_, ?_⟩ <;> rw [rot_eq (by omega) (by omega), if_neg (by omega), show i + o.keys.length - t + t - o.keys.length = i from by omega] <;> assumption
  obtain ⟨x, e, hx, ⟨f1, f2, f3, f4⟩, hh⟩ := dictL_flat (rotP o t o.keys.length) [] dict0 (fun p hp => (h8 p.1 p.2 ((hmem _ _).1 hp)).2.2.1)
    (by
      rw [rotP, List.map_map, List.nodup_iff_pairwise_ne, List.pairwise_map]
      refine (List.Pairwise.and_mem.1 List.nodup_range).imp ?_
      rintro a b ⟨ha, hb, hab⟩ e
      rw [List.mem_range] at ha hb
      simp only [Function.comp] at e
      have := incr_inj hs.1 (by rw [rot_eq (by omega) ha]; split <;> omega) (by rw [rot_eq (by omega) hb]; split <;> omega) e
      rw [rot_eq (by omega) ha, rot_eq (by omega) hb] at this
      apply hab
      split at this <;> split at this <;> omega)
    (fun p _ hp => by cases hp) ⟨fun a b _ hb => by simp [dict0, Pob.keys_mk] at hb, rfl⟩
  have hxo : x = o := by
    have hs' : o.str = [] := by
      rcases h4 with g | g
      · omega
      · exact g
    refine kv_ext hx hs (by rw [f1, hk]; rfl) (by rw [f2, h2]; rfl) (by rw [f3, h3]; rfl) (by rw [f4, hs']; rfl) fun k v => ?_
    rw [hh, hmem]
    constructor
    · rintro (g | ⟨_, i, hi, _⟩)
      · exact g
      · simp [dict0, Pob.keys_mk] at hi
    · exact .inl
  subst hxo
  have := dict_some (dictArg_flat _) e
  rw [h] at this
  simpa [rotL] using this
theorem dict_stream {o : Pob} {s : List UInt8} (h : chk o 1 = 0) (hk : o.kind = 7) (hl : s.length ≤ 3000) : streamE o s = 0 ∧ (streamO o s).str = s ∧ (streamO o s).kind = 9 ∧ chk (streamO o s) 1 = 0 ∧
    ∀ i, i < o.keys.length → getB (streamO o s) (o.keys.getD i []) = decide (o.keys.getD i [] ≠ lengthK) ∧ (o.keys.getD i [] ≠ lengthK → getO (streamO o s) (o.keys.getD i []) = o.kids.getD i Pob.null) := by
  have hk' : keyedB o.kind = true := by simp [keyedB, hk]
  obtain ⟨ds, dh⟩ := dropO_has (key := lengthK) h hk'
  obtain ⟨g1, g2, g3, g4⟩ := dropO_frame o lengthK
  have hl2 := dropO_len o lengthK
  obtain ⟨⟨h1, h2, h3, h4, h5, h6, h7⟩, hs, h8⟩ := (chk_keyed hk').1 h
  have hxk : keyedB ((dropO o lengthK).strm s).kind = true := by simp [Pob.strm, Pob.kind_mk, keyedB]
  have hxs : ((dropO o lengthK).strm s).kvOk := ds
  have hxh : ∀ k v, ((dropO o lengthK).strm s).has k v ↔ k ≠ lengthK ∧ o.has k v := dh
  have hc : chk ((dropO o lengthK).strm s) 1 = 0 := by
    rw [chk_keyed hxk]
    refine ⟨⟨by omega, by simp only [Pob.strm, Pob.num_mk]; omega, by simp only [Pob.strm, Pob.gen_mk]; omega, .inl rfl, .inl rfl, by simp only [Pob.strm, Pob.str_mk]; omega, by simp only [Pob.strm, Pob.kids_mk]; omega⟩, hxs, fun k v hv => ?_⟩
    obtain ⟨hne, hv⟩ := (hxh k v).1 hv
    obtain ⟨a, _, c, d⟩ := h8 k v hv
    exact ⟨a, fun hh => hne hh.2, c, d⟩
  obtain ⟨e1, e2⟩ := stream_ok (s := s) hk h
  rw [hc] at e1
  rw [if_pos hc] at e2
  rw [e2]
  refine ⟨e1, rfl, rfl, hc, fun i hi => ?_⟩
  by_cases hne : o.keys.getD i [] = lengthK
  · refine ⟨?_, fun hh => absurd hne hh⟩
    rw [(get_no hxs hxk fun v hv => ((hxh _ _).1 hv).1 hne).1, decide_eq_false (fun h => h hne)]
  · have := (get_has hxs hxk (k := o.keys.getD i []) (v := o.kids.getD i Pob.null)).2 ((hxh _ _).2 ⟨hne, i, hi, rfl, rfl⟩)
    exact ⟨by rw [this.1]; simp only [ne_eq, hne, not_false_eq_true, decide_true], fun _ => this.2⟩
end Aw

set_option linter.unusedVariables false
namespace Aw
open Go
theorem rot_lt {n t j : Nat} (h : 0 < n) : rot n t j < n := Nat.mod_lt _ h
theorem bulks_flat : ∀ l : List (List UInt8 × Pob), bulks (flatKV l) = l.length + bulks (l.map (·.2))
  | [] => rfl
  | p :: l => by
    have := bulks_flat l
    have e : flatKV (p :: l) = nameO p.1 :: p.2 :: flatKV l := rfl
    have e2 : (nameO p.1).bulk = 1 := rfl
    rw [e, bulks, bulks, this, e2, List.map_cons, bulks, List.length_cons]
    omega
theorem rot_kids {l : List Pob} {t : Nat} (ht : t < l.length ∨ l.length = 0) : (List.range l.length).map (fun j => l.getD (rot l.length t j) Pob.null) = l.drop t ++ l.take t := by
  refine List.ext_getElem (by simp; omega) fun j h1 h2 => ?_
  simp only [List.length_map, List.length_range] at h1
  have ht' : t < l.length := by omega
  rw [List.getElem_map, List.getElem_range, rot_eq ht' h1]
  by_cases h : j + t < l.length
  · rw [if_pos h, List.getElem_append_left (by simp; omega), List.getElem_drop, List.getD, List.getElem?_eq_getElem h]
    simp [Nat.add_comm]
  · rw [if_neg h, List.getElem_append_right (by simp; omega), List.getElem_take, List.getD, List.getElem?_eq_getElem (by omega)]
    simp only [Option.getD_some, List.length_drop]
    congr 1
    omega
theorem rotL_bulks {o : Pob} {t : Nat} (hl : o.keys.length = o.kids.length) (ht : t < o.keys.length ∨ o.keys.length = 0) : (rotL o t o.keys.length).length + bulks (rotL o t o.keys.length) ≤ 2 * o.bulk := by
  rw [rotL_length]
  unfold rotL
  rw [bulks_flat]
  have e : (rotP o t o.keys.length).map (·.2) = (List.range o.kids.length).map (fun j => o.kids.getD (rot o.kids.length t j) Pob.null) := by
    unfold rotP
    rw [List.map_map, hl]
    rfl
  rw [e, rot_kids (by omega), bulks_append]
  have h1 : bulks (o.kids.drop t) + bulks (o.kids.take t) = bulks o.kids := by
    rw [Nat.add_comm, ← bulks_append, List.take_append_drop]
  have h2 := Pob.bulk_eq o
  have h3 : (rotP o t o.keys.length).length = o.keys.length := by simp [rotP]
  omega
theorem rot_int {n i : Nat} {q : Int} (hq : 0 ≤ q) (hi : i < n) : ((i : Int) + q % (n : Int)) % (n : Int) = ((rot n (q % (n : Int)).toNat i : Nat) : Int) := by
  have h0 : 0 ≤ q % (n : Int) := Int.emod_nonneg _ (by omega)
  unfold rot
  rw [Int.natCast_emod, Int.natCast_add, Int.toNat_of_nonneg h0]
theorem rot_turn {n : Nat} {q : Int} (hq : 0 ≤ q) : (q % (n : Int)).toNat < n ∨ n = 0 := by
  by_cases h : n = 0
  · exact .inr h
  · left
    have h0 : 0 ≤ q % (n : Int) := Int.emod_nonneg _ (by omega)
    have h1 : q % (n : Int) < n := Int.emod_lt_of_pos _ (by omega)
    omega
theorem streamO_bulk (o : Pob) (s : List UInt8) : (streamO o s).bulk ≤ o.bulk := by
  unfold streamO
  split
  · have : Pob.null.bulk = 1 := rfl
    have := Pob.bulk_eq o
    omega
  · rw [strm_bulk]; exact dropO_bulk o lengthK
theorem dictL_bulk : ∀ (ps : List Pob) (met : List (List UInt8)) (o r : Pob), dictL ps met o = some r → r.bulk ≤ o.bulk + 2 * bulks ps
  | [], _, o, r, h => by simp only [dictL, Option.some.injEq] at h; subst h; omega
  | [x], _, o, r, h => by simp only [dictL, Option.some.injEq] at h; subst h; omega
  | k :: v :: l, met, o, r, h => by
    rw [dictL] at h
    have hk := Pob.bulk_pos k
    have hw := Pob.withK_bulk o k.str v
    simp only [bulks]
    split at h
    · cases h
    · have ih := dictL_bulk l _ _ r h
      split at ih <;> omega
theorem dictO_bulk (ps : List Pob) : (dictO ps).bulk ≤ 1 + 2 * bulks ps := by
  have h0 : Pob.null.bulk = 1 := rfl
  cases ha : dictArg ps with
  | false => rw [(dict_arg ha).2]; omega
  | true =>
    cases hd : dictL ps [] dict0 with
    | none => rw [(dict_twice ha hd).2]; omega
    | some o =>
      have := dictL_bulk ps [] dict0 o hd
      have h1 : dict0.bulk = 1 := rfl
      rw [(dict_some ha hd).2]
      split <;> omega
end Aw

namespace Go.Proofs
open Go Aw
set_option linter.unusedSimpArgs false
set_option linter.unusedVariables false
set_option maxRecDepth 100000
set_option maxHeartbeats 2000000

theorem cells_mk (o : Pob) : [AV.int .i64 o.kind, .int .i64 o.num, .int .i64 o.gen, .str o.str, .sl (strsAV o.keys), .sl (List.map Pob.cells o.kids)] = o.cells := by rw [← objsAV_map]; cases o; rfl
theorem c_law_ValueDict (gl : List (Nat × AV)) (o : Pob) (q : Int) (s : List UInt8) (ho : o.tot ≤ 1048576) : FnP Try.prog (gl) 10 [.agg o.cells, .int .i64 q, .str s] fun r => r = .ret (.bool true) := by
  refine FnP.intro Try.func10 rfl rfl (by simp [Try.ntmps10]) ?_
  simp only [argEnv, Try.ntmps10, Try.results10]
  have hb := Pob.bulk_tot o
  have hps := Pob.psize_tot o
  have hbe := Pob.bulk_eq o
  refine AW.rS ?_
  refine AW.trim [1, 2, 3] ?_
  refine AW.seq ?_
  refine AW.rSC ?_
  refine awOps.cons (awGuard.c1 (c_law05_lives _) ?_)
  refine awOps.rn ?_
  refine AW.trim [1, 2, 3, 19] ?_
  refine AW.c2 ?_ ?_
  · intro h6
    simp at h6
  · intro h6
    refine AW.skip ?_
    refine AW.seq ?_
    refine AW.rSC ?_
    refine awOps.cons (awGuard.c1 (c_foliantref05_Size _ o (by omega) (by omega)) ?_)
    refine awOps.rn ?_
    refine awOps.cons (awGuard.cG (fun hg => c_value_Check _ o (by omega)) ?_)
    refine awOps.rn ?_
    refine AW.trim [1, 2, 3, 41] ?_
    refine AW.c2 ?_ ?_
    · intro h17
      refine AW.rS ?_
      refine AW.trim [6] ?_
      refine AW.rt ?_
      all_goals first | contradiction | rfl | (simp; done) | (simp; omega)
    · intro h17
      have hc := h17.1.1.1.2
      have hk7 := h17.1.1.2
      have hq0 := h17.2
      have hkl : o.keys.length = o.kids.length := (kvOk_of_chk hc (by simp [keyedB, hk7])).2
      have ht := rot_turn (n := o.keys.length) hq0
      obtain ⟨d1, d2⟩ := dict_rot hc hk7 ht
      obtain ⟨s1, s2, s3, s4, s5⟩ := dict_stream (s := s) hc hk7 (by omega)
      have hrb := rotL_bulks hkl ht
      have hsb := streamO_bulk o s
      refine AW.skip ?_
      refine AW.rS ?_
      refine AW.trim [1, 2, 3, 7] ?_
      refine AW.seq ?_
      refine AW.rS ?_
      refine AW.trim [1, 2, 3, 7, 44, 45] ?_
      refine AW.block ?_
      refine AW.pre (St.le.nilrow 7 6 (by (simp only [go_sem, seval]; try (simp (disch := omega) only [wrap_i64, wrap_u8, wrap_u64, tdiv_nn, tmod_nn, Int.toNat_natCast_add_one, toNat_sub1, Int.toNat_sub, Int.toNat_natCast, intsAV_getD, strsAV_getD, objsAV_getD, itemsAV_getD, intsAV_out, strsAV_out, objsAV_out, itemsAV_out, fillO_length, fillO_set]; try (simp only [go_sem, seval]; try (simp (disch := omega) only [wrap_i64, wrap_u8, wrap_u64, tdiv_nn, tmod_nn, Int.toNat_natCast_add_one, toNat_sub1, Int.toNat_sub, Int.toNat_natCast, intsAV_getD, strsAV_getD, objsAV_getD, itemsAV_getD, intsAV_out, strsAV_out, objsAV_out, itemsAV_out, fillO_length, fillO_set]; try simp only [go_sem, seval])))))) ?_
      refine wk ?_
      refine AW.lk (S := { i : Nat // i ≤ o.keys.length }) [1, 2, 3, 44] (fun s_ => [(7, .row 1 0 (rotL o (q % o.keys.length).toNat s_.1).length), (45, .int .i64 s_.1)]) (fun s_ => [(0, .cells o.cells), (1, .row 6 (objsAV (rotL o (q % o.keys.length).toNat s_.1)) true)]) 2 (fun s_ => o.keys.length - s_.1) ⟨0, Nat.zero_le _⟩ ?_ ?_
      · refine St.le.vw [0, 1]
      rintro ⟨i, hi⟩
      try dsimp only at hi
      refine AW.rS ?_
      refine AW.trim [1, 2, 3, 7, 44, 45, 46] ?_
      refine AW.seq ?_
      refine AW.c2 ?_ ?_
      · intro h29
        have hm0 : 0 ≤ q % (o.keys.length : Int) := Int.emod_nonneg _ (by omega)
        have hm1 : q % (o.keys.length : Int) < (o.keys.length : Int) := Int.emod_lt_of_pos _ (by omega)
        refine AW.skip ?_
        refine AW.seq ?_
        refine AW.block ?_
        refine AW.rS ?_
        refine AW.trim [1, 2, 3, 7, 8, 44, 45] ?_
        refine AW.dS [(0, 0), (1, 0), (2, 0), (3, 1), (4, 1), (5, 0), (6, 0), (7, 0), (8, 1), (9, 1), (10, 0), (11, 0)] ?_
        refine AW.trim [1, 2, 3, 7, 9, 44, 45] ?_
        have hri := rot_int (n := o.keys.length) hq0 h29
        have hrl : rot o.keys.length (q % (o.keys.length : Int)).toNat i < o.keys.length := rot_lt (by omega)
        have hln := rotL_length o (q % (o.keys.length : Int)).toNat i
        have hsu := rotL_succ o (q % (o.keys.length : Int)).toNat i
        have hs2 := congrArg List.length hsu
        rw [List.length_append] at hs2
        rw [hri]
        refine AW.fL [0, 1, 2, 3, 4, 5, 7, 8, 9, 10, 11, 6, 12] [(13, 2), (14, 2)] ?_
        refine awFun.rn ?_
        refine awFun.c1 [64] (c_value_Name _ (o.keys.getD (rot o.keys.length (q % o.keys.length).toNat i) [])) ?_
        refine awFun.rn ?_
        refine awFun.bs [65, 70] ?_
        refine awFun.rn ?_
        rw [Aw.awFun_nil]
        refine awPlan.rn ?_
        refine AW.rL ?_
        refine ⟨⟨i + 1, by omega⟩, ?_, ?_⟩
        · refine St.le.vx [0, 2] ?_
          rw [hsu]; simp [objsAV_map]; exact ⟨cells_mk _, cells_mk _⟩
        · simp only []; omega
      · intro h29
        refine AW.exit ?_
        obtain rfl : i = o.keys.length := by omega
        refine AW.clo 7 ?_
        refine wk ?_
        refine AW.rSC ?_
        refine awOps.cons (awGuard.c1 (c_value_Dict _ (rotL o (q % o.keys.length).toNat o.keys.length) (by omega)) ?_)
        refine awOps.rn ?_
        refine AW.trim [2, 3, 10, 11] ?_
        refine AW.rSC ?_
        refine awOps.cons (awGuard.c1 (c_value_Stream _ o s (by omega)) ?_)
        refine awOps.rn ?_
        refine AW.trim [2, 3, 10, 11, 12, 13] ?_
        refine AW.seq ?_
        refine AW.rSC ?_
        refine awOps.cons (awGuard.c1 (c_value_Same _ (dictO (rotL o (q % o.keys.length).toNat o.keys.length)) o (by rw [d2]; omega)) ?_)
        refine awOps.rn ?_
        refine AW.trim [3, 12, 107] ?_
        refine AW.c2 ?_ ?_
        · intro h56
          exfalso
          rw [d1, d2, s1, s2, s3] at h56
          simp at h56
        · intro h56
          refine AW.skip ?_
          refine AW.seq ?_
          refine AW.rS ?_
          refine AW.trim [3, 12, 109, 110, 111] ?_
          refine AW.block ?_
          refine AW.lk (S := { i : Nat // i ≤ o.keys.length }) [3, 109, 110] (fun s_ => [(12, .ptr 1 0), (111, .int .i64 s_.1)]) (fun s_ => [(0, .cells o.cells), (1, .cells (streamO o s).cells)]) 2 (fun s_ => o.keys.length - s_.1) ⟨0, Nat.zero_le _⟩ ?_ ?_
          · refine St.le.vw [0, 3]
          rintro ⟨i, hi⟩
          try dsimp only at hi
          refine AW.rS ?_
          refine AW.trim [3, 12, 109, 110, 111, 112] ?_
          refine AW.seq ?_
          refine AW.c2 ?_ ?_
          · intro h67
            refine AW.skip ?_
            refine AW.seq ?_
            refine AW.block ?_
            refine AW.rS ?_
            refine AW.trim [3, 12, 14, 15, 109, 110, 111] ?_
            refine AW.rSC ?_
            refine awOps.cons (awGuard.c1 (c_value_Get _ (streamO o s) (o.keys.getD i []) (by omega)) ?_)
            refine awOps.rn ?_
            refine AW.trim [3, 12, 14, 15, 16, 17, 109, 110, 111] ?_
            refine AW.fS [0, 1, 2, 3, 4, 5, 6, 7, 8, 9, 10, 11, 12, 13, 14, 15, 16] [] ?_
            refine awFun.rn ?_
            refine awFun.cG [128, 129, 134] (fun hg => c_value_Same _ (getO (streamO o s) (o.keys.getD i [])) (o.kids.getD i Pob.null) (by have := get_bulk (streamO o s) (o.keys.getD i []); omega)) ?_
            refine awFun.rn ?_
            rw [Aw.awFun_nil, Aw.awPlan_nil]
            refine AW.trim [3, 12, 109, 110, 111, 138] ?_
            refine AW.c2 ?_ ?_
            · intro h80
              exfalso
              obtain ⟨g1, g2⟩ := s5 i h67
              rw [g1] at h80
              by_cases hL : o.keys.getD i [] = lengthK
              · simp [hL, lengthK] at h80
                first | exact h80.1 hL | exact h80.elim
              · simp [hL, lengthK] at h80
                exact h80.2 (g2 hL)
            · intro h80
              refine AW.skip ?_
              refine AW.rL ?_
              refine ⟨⟨i + 1, by omega⟩, ?_, ?_⟩
              · refine St.le.vw [0, 1]
              · simp only []; omega
          · intro h67
            refine AW.exit ?_
            refine AW.rSC ?_
            refine awOps.cons (awGuard.c1 (c_value_Check _ (streamO o s) (by omega)) ?_)
            refine awOps.rn ?_
            refine AW.trim [6] ?_
            refine AW.rt ?_
            rw [s4]; rfl
end Go.Proofs
