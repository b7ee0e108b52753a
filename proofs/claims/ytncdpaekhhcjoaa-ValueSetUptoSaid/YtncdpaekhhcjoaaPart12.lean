/- A part of the proof of a law of the seat: no condition of its own. -/
import Derived.Test.YtncdpaekhhcjoaaPart11
namespace Go.Proofs
open Go Aw
set_option linter.unusedSimpArgs false
set_option linter.unusedVariables false
set_option maxRecDepth 100000
set_option maxHeartbeats 4000000

attribute [local go_sem] List.getD_cons_zero List.length_cons List.length_nil
def smallO : Pob := .mk 7 0 0 [] [[65], [66]] [.mk 2 1 0 [] [] [], .mk 6 0 0 [] [] [.mk 8 5 0 [] [] [], .mk 0 0 0 [] [] []]]
theorem c_law05_Small (gl : List (Nat × AV))  : FnP Try.prog (gl) 77 [] fun r => r = .ret (.agg smallO.cells) := by
  refine FnP.intro Try.func77 rfl rfl (by simp [Try.ntmps77]) ?_
  simp only [argEnv, Try.ntmps77, Try.results77]
  refine AW.rS ?_
  refine AW.rS ?_
  refine AW.rt ?_
  all_goals first | contradiction | rfl | (simp; done) | (simp; omega)
def lqP : List Pob := [nameO [66], arrO [refO 5 0, Pob.null], nameO [67], Pob.null, nameO [65], intO 1]
def lqS : Pob := streamO smallO [120, 121, 122]
def lqT : Pob := setO smallO [67] (realO 5)
def lqR : Pob := smallO.swap [5] [7]
theorem lw1 : dictO lqP = smallO := by decide +kernel
theorem lw2 : dictE lqP = 0 := by decide +kernel
theorem lw3 : dictE [nameO [65]] = 1 := by decide +kernel
theorem lw4 : dictE [intO 1, intO 1] = 1 := by decide +kernel
theorem lw5 : dictE [nameO [65], intO 1, nameO [65], Pob.null] = 9 := by decide +kernel
theorem lw6 : (streamO smallO [120, 121, 122]).kind = 9 := by decide +kernel
theorem lw7 : (streamO smallO [120, 121, 122]).str = [120, 121, 122] := by decide +kernel
theorem lw8 : streamE smallO [120, 121, 122] = 0 := by decide +kernel
theorem lw9 : streamE (intO 1) [] = 10 := by decide +kernel
theorem lw10 : setE lqS [76, 101, 110, 103, 116, 104] (intO 3) = 3 := by decide +kernel
theorem lw11 : setE smallO [67] (realO 5) = 0 := by decide +kernel
theorem lw12 : setE smallO [67] lqS = 10 := by decide +kernel
theorem lw13 : setE (intO 1) [67] (intO 1) = 10 := by decide +kernel
theorem lw14 : getB lqT [67] = true := by decide +kernel
theorem lw15 : getO lqT [67] = realO 5 := by decide +kernel
theorem lw16 : getB smallO [67] = false := by decide +kernel
theorem lw17 : numI (intO (-3)) = -30000 := by decide +kernel
theorem lw18 : numB (intO (-3)) = true := by decide +kernel
theorem lw19 : numB (intO 107375) = false := by decide +kernel
theorem lw20 : numB (strO [49]) = false := by decide +kernel
theorem lw21 : smallO.depth = 3 := by decide +kernel
theorem lw22 : dropO lqT [67] = smallO := by decide +kernel
theorem lw23 : ¬ lqT = smallO := by decide +kernel
theorem lw24 : lqR.pre.foldl refStp [] = [7] := by decide +kernel
theorem lw25 : refsO lqR = [7] := by rw [refsO, lw24]; simp [sortI]
theorem lw26 : chk smallO 1 = 0 := by decide +kernel
theorem lw27 : chk (Pob.mk 10 0 0 [] [] []) 1 = 10 := by decide +kernel
theorem lw28 : chk (boolO true) 1 = 0 := by decide +kernel
theorem lw29 : chk (Pob.mk 1 2 0 [] [] []) 1 = 2 := by decide +kernel
theorem lw30 : chk (Pob.mk 2 0 0 [120] [] []) 1 = 10 := by decide +kernel
theorem lw31 : chk (arrO [streamO smallO [120, 121, 122]]) 1 = 10 := by decide +kernel
theorem lw32 : chk (nameO [97, 0]) 1 = 3 := by decide +kernel
theorem lw33 : chk (refO 0 0) 1 = 2 := by decide +kernel
theorem lw34 : chk (Pob.mk 7 0 0 [] [[65]] []) 1 = 3 := by decide +kernel
theorem lw_one (o : Pob) : objsAV [o] = [[.int .i64 o.kind, .int .i64 o.num, .int .i64 o.gen, .str o.str, .sl (strsAV o.keys), .sl (objsAV o.kids)]] := by cases o; rfl
theorem c_lwArr (gl : List (Nat × AV)) (o : Pob) (h : objsAV [o] = [[.int .i64 o.kind, .int .i64 o.num, .int .i64 o.gen, .str o.str, .sl (strsAV o.keys), .sl (objsAV o.kids)]]) (hb : (arrO [o]).bulk ≤ 16777216) : FnP Try.prog gl 78 [.sl [[.int .i64 o.kind, .int .i64 o.num, .int .i64 o.gen, .str o.str, .sl (strsAV o.keys), .sl (objsAV o.kids)]]] fun r => r = .ret (.agg (arrO [o]).cells) := by
  rw [← h]
  exact c_value_Array gl [o] hb
theorem c_law05_lives (gl : List (Nat × AV))  : FnP Try.prog (gl) 38 [] fun r => r = .ret (.bool true) := by
  refine FnP.intro Try.func38 rfl rfl (by simp [Try.ntmps38]) ?_
  simp only [argEnv, Try.ntmps38, Try.results38]
  refine AW.rS ?_
  refine AW.trim [] ?_
  refine AW.rSC ?_
  refine awOps.cons (awGuard.c1 (c_law05_Small _) ?_)
  refine awOps.rn ?_
  refine AW.trim [1] ?_
  refine AW.rSC ?_
  refine awOps.cons (awGuard.c1 (c_value_Name _ [66]) ?_)
  refine awOps.rn ?_
  refine awOps.cons (awGuard.c1 (c_value_Ref _ 5 0) ?_)
  refine awOps.rn ?_
  refine awOps.cons (awGuard.c1 (c_value_Null _) ?_)
  refine awOps.rn ?_
  refine awOps.cons (awGuard.c1 (c_value_Array _ [refO 5 0, Pob.null] (by decide +kernel)) ?_)
  refine awOps.rn ?_
  refine awOps.cons (awGuard.c1 (c_value_Name _ [67]) ?_)
  refine awOps.rn ?_
  refine awOps.cons (awGuard.c1 (c_value_Null _) ?_)
  refine awOps.rn ?_
  refine awOps.cons (awGuard.c1 (c_value_Name _ [65]) ?_)
  refine awOps.rn ?_
  refine awOps.cons (awGuard.c1 (c_value_Int _ 1) ?_)
  refine awOps.rn ?_
  refine awOps.cons (awGuard.c1 (c_value_Dict _ lqP (by decide +kernel)) ?_)
  refine awOps.rn ?_
  refine AW.trim [1, 2, 3] ?_
  refine AW.rSC ?_
  refine awOps.cons (awGuard.c1 (c_value_Name _ [65]) ?_)
  refine awOps.rn ?_
  refine awOps.cons (awGuard.c1 (c_value_Dict _ [nameO [65]] (by decide +kernel)) ?_)
  refine awOps.rn ?_
  refine AW.trim [1, 2, 3, 5] ?_
  refine AW.rSC ?_
  refine awOps.cons (awGuard.c1 (c_value_Int _ 1) ?_)
  refine awOps.rn ?_
  refine awOps.cons (awGuard.c1 (c_value_Int _ 1) ?_)
  refine awOps.rn ?_
  refine awOps.cons (awGuard.c1 (c_value_Dict _ [intO 1, intO 1] (by decide +kernel)) ?_)
  refine awOps.rn ?_
  refine AW.trim [1, 2, 3, 5, 7] ?_
  refine AW.rSC ?_
  refine awOps.cons (awGuard.c1 (c_value_Name _ [65]) ?_)
  refine awOps.rn ?_
  refine awOps.cons (awGuard.c1 (c_value_Int _ 1) ?_)
  refine awOps.rn ?_
  refine awOps.cons (awGuard.c1 (c_value_Name _ [65]) ?_)
  refine awOps.rn ?_
  refine awOps.cons (awGuard.c1 (c_value_Null _) ?_)
  refine awOps.rn ?_
  refine awOps.cons (awGuard.c1 (c_value_Dict _ [nameO [65], intO 1, nameO [65], Pob.null] (by decide +kernel)) ?_)
  refine awOps.rn ?_
  refine AW.trim [1, 2, 3, 5, 7, 9] ?_
  refine AW.rSC ?_
  refine awOps.cons (awGuard.c1 (c_value_Stream _ smallO [120, 121, 122] (by decide +kernel)) ?_)
  refine awOps.rn ?_
  refine AW.trim [1, 2, 3, 5, 7, 9, 10, 11] ?_
  refine AW.rSC ?_
  refine awOps.cons (awGuard.c1 (c_value_Int _ 1) ?_)
  refine awOps.rn ?_
  refine awOps.cons (awGuard.c1 (c_value_Stream _ (intO 1) [] (by decide +kernel)) ?_)
  refine awOps.rn ?_
  refine AW.trim [1, 2, 3, 5, 7, 9, 10, 11, 13] ?_
  refine AW.tG (σf := ?sf8) (.fork 0 (.fork 1 (.fork 2 (.take 3 0 (.take 4 0 (.take 5 0 (.fork 6 (.fork 7 (.take 8 0 .done) .stop) .stop)))) (.fork 6 (.fork 2 (.take 3 0 (.take 4 0 (.take 5 0 (.fork 7 (.take 8 0 .done) .stop)))) .stop) .stop)) (.fork 6 (.fork 1 (.fork 2 (.take 3 0 (.take 4 0 (.take 5 0 (.fork 7 (.take 8 0 .done) .stop)))) .stop) .stop) .stop)) (.fork 1 (.fork 0 (.fork 2 (.take 3 0 (.take 4 0 (.take 5 0 (.fork 6 (.fork 7 (.take 8 0 .done) .stop) .stop)))) (.fork 6 (.fork 2 (.take 3 0 (.take 4 0 (.take 5 0 (.fork 7 (.take 8 0 .done) .stop)))) .stop) .stop)) (.fork 6 (.fork 0 (.fork 2 (.take 3 0 (.take 4 0 (.take 5 0 (.fork 7 (.take 8 0 .done) .stop)))) .stop) .stop) .stop)) (.fork 6 (.fork 0 (.fork 1 (.fork 2 (.take 3 0 (.take 4 0 (.take 5 0 (.fork 7 (.take 8 0 .done) .stop)))) .stop) .stop) (.fork 1 (.fork 0 (.fork 2 (.take 3 0 (.take 4 0 (.take 5 0 (.fork 7 (.take 8 0 .done) .stop)))) .stop) .stop) .stop)) .stop))) ?tree8 ?rest8
  case tree8 =>
    refine awTree.fA ?_ ?_
    · refine awTree.fC (c_value_Int _ 3) ?_ ?_
      · refine awTree.fC (c_value_Set _ lqS [76, 101, 110, 103, 116, 104] (intO 3) (by decide +kernel)) ?_ ?_
        · refine awTree.tk ?_
          refine awTree.tk ?_
          refine awTree.tk ?_
          refine awTree.fA ?_ ?_
          · refine awTree.fA ?_ ?_
            · refine awTree.tk ?_
              exact awTree.dn
            · exact trivial
          · exact trivial
        · refine awTree.fA ?_ ?_
          · refine awTree.fC (c_value_Set _ lqS [76, 101, 110, 103, 116, 104] (intO 3) (by decide +kernel)) ?_ ?_
            · refine awTree.tk ?_
              refine awTree.tk ?_
              refine awTree.tk ?_
              refine awTree.fA ?_ ?_
              · refine awTree.tk ?_
                exact awTree.dn
              · exact trivial
            · exact trivial
          · exact trivial
      · refine awTree.fA ?_ ?_
        · refine awTree.fC (c_value_Int _ 3) ?_ ?_
          · refine awTree.fC (c_value_Set _ lqS [76, 101, 110, 103, 116, 104] (intO 3) (by decide +kernel)) ?_ ?_
            · refine awTree.tk ?_
              refine awTree.tk ?_
              refine awTree.tk ?_
              refine awTree.fA ?_ ?_
              · refine awTree.tk ?_
                exact awTree.dn
              · exact trivial
            · exact trivial
          · exact trivial
        · exact trivial
    · refine awTree.fC (c_value_Int _ 3) ?_ ?_
      · refine awTree.fA ?_ ?_
        · refine awTree.fC (c_value_Set _ lqS [76, 101, 110, 103, 116, 104] (intO 3) (by decide +kernel)) ?_ ?_
          · refine awTree.tk ?_
            refine awTree.tk ?_
            refine awTree.tk ?_
            refine awTree.fA ?_ ?_
            · refine awTree.fA ?_ ?_
              · refine awTree.tk ?_
                exact awTree.dn
              · exact trivial
            · exact trivial
          · refine awTree.fA ?_ ?_
            · refine awTree.fC (c_value_Set _ lqS [76, 101, 110, 103, 116, 104] (intO 3) (by decide +kernel)) ?_ ?_
              · refine awTree.tk ?_
                refine awTree.tk ?_
                refine awTree.tk ?_
                refine awTree.fA ?_ ?_
                · refine awTree.tk ?_
                  exact awTree.dn
                · exact trivial
              · exact trivial
            · exact trivial
        · refine awTree.fA ?_ ?_
          · refine awTree.fA ?_ ?_
            · refine awTree.fC (c_value_Set _ lqS [76, 101, 110, 103, 116, 104] (intO 3) (by decide +kernel)) ?_ ?_
              · refine awTree.tk ?_
                refine awTree.tk ?_
                refine awTree.tk ?_
                refine awTree.fA ?_ ?_
                · refine awTree.tk ?_
                  exact awTree.dn
                · exact trivial
              · exact trivial
            · exact trivial
          · exact trivial
      · refine awTree.fA ?_ ?_
        · refine awTree.fA ?_ ?_
          · refine awTree.fC (c_value_Int _ 3) ?_ ?_
            · refine awTree.fC (c_value_Set _ lqS [76, 101, 110, 103, 116, 104] (intO 3) (by decide +kernel)) ?_ ?_
              · refine awTree.tk ?_
                refine awTree.tk ?_
                refine awTree.tk ?_
                refine awTree.fA ?_ ?_
                · refine awTree.tk ?_
                  exact awTree.dn
                · exact trivial
              · exact trivial
            · exact trivial
          · refine awTree.fC (c_value_Int _ 3) ?_ ?_
            · refine awTree.fA ?_ ?_
              · refine awTree.fC (c_value_Set _ lqS [76, 101, 110, 103, 116, 104] (intO 3) (by decide +kernel)) ?_ ?_
                · refine awTree.tk ?_
                  refine awTree.tk ?_
                  refine awTree.tk ?_
                  refine awTree.fA ?_ ?_
                  · refine awTree.tk ?_
                    exact awTree.dn
                  · exact trivial
                · exact trivial
              · exact trivial
            · exact trivial
        · exact trivial
  skip
  skip
  skip
  skip
  skip
  skip
  skip
  refine AW.trim [1, 2, 3, 5, 7, 9, 10, 11, 13, 15] ?_
  refine AW.tG (σf := ?sf9) (.fork 0 (.fork 1 (.fork 2 (.take 3 0 (.take 4 0 (.take 5 0 (.fork 6 (.fork 7 (.take 8 0 .done) .stop) .stop)))) (.fork 6 (.fork 2 (.take 3 0 (.take 4 0 (.take 5 0 (.fork 7 (.take 8 0 .done) .stop)))) .stop) .stop)) (.fork 6 (.fork 1 (.fork 2 (.take 3 0 (.take 4 0 (.take 5 0 (.fork 7 (.take 8 0 .done) .stop)))) .stop) .stop) .stop)) (.fork 1 (.fork 0 (.fork 2 (.take 3 0 (.take 4 0 (.take 5 0 (.fork 6 (.fork 7 (.take 8 0 .done) .stop) .stop)))) (.fork 6 (.fork 2 (.take 3 0 (.take 4 0 (.take 5 0 (.fork 7 (.take 8 0 .done) .stop)))) .stop) .stop)) (.fork 6 (.fork 0 (.fork 2 (.take 3 0 (.take 4 0 (.take 5 0 (.fork 7 (.take 8 0 .done) .stop)))) .stop) .stop) .stop)) (.fork 6 (.fork 0 (.fork 1 (.fork 2 (.take 3 0 (.take 4 0 (.take 5 0 (.fork 7 (.take 8 0 .done) .stop)))) .stop) .stop) (.fork 1 (.fork 0 (.fork 2 (.take 3 0 (.take 4 0 (.take 5 0 (.fork 7 (.take 8 0 .done) .stop)))) .stop) .stop) .stop)) .stop))) ?tree9 ?rest9
  case tree9 =>
    refine awTree.fA ?_ ?_
    · refine awTree.fC (c_value_Real _ 5) ?_ ?_
      · refine awTree.fC (c_value_Set _ smallO [67] (realO 5) (by decide +kernel)) ?_ ?_
        · refine awTree.tk ?_
          refine awTree.tk ?_
          refine awTree.tk ?_
          refine awTree.fA ?_ ?_
          · refine awTree.fA ?_ ?_
            · refine awTree.tk ?_
              exact awTree.dn
            · exact trivial
          · exact trivial
        · refine awTree.fA ?_ ?_
          · refine awTree.fC (c_value_Set _ smallO [67] (realO 5) (by decide +kernel)) ?_ ?_
            · refine awTree.tk ?_
              refine awTree.tk ?_
              refine awTree.tk ?_
              refine awTree.fA ?_ ?_
              · refine awTree.tk ?_
                exact awTree.dn
              · exact trivial
            · exact trivial
          · exact trivial
      · refine awTree.fA ?_ ?_
        · refine awTree.fC (c_value_Real _ 5) ?_ ?_
          · refine awTree.fC (c_value_Set _ smallO [67] (realO 5) (by decide +kernel)) ?_ ?_
            · refine awTree.tk ?_
              refine awTree.tk ?_
              refine awTree.tk ?_
              refine awTree.fA ?_ ?_
              · refine awTree.tk ?_
                exact awTree.dn
              · exact trivial
            · exact trivial
          · exact trivial
        · exact trivial
    · refine awTree.fC (c_value_Real _ 5) ?_ ?_
      · refine awTree.fA ?_ ?_
        · refine awTree.fC (c_value_Set _ smallO [67] (realO 5) (by decide +kernel)) ?_ ?_
          · refine awTree.tk ?_
            refine awTree.tk ?_
            refine awTree.tk ?_
            refine awTree.fA ?_ ?_
            · refine awTree.fA ?_ ?_
              · refine awTree.tk ?_
                exact awTree.dn
              · exact trivial
            · exact trivial
          · refine awTree.fA ?_ ?_
            · refine awTree.fC (c_value_Set _ smallO [67] (realO 5) (by decide +kernel)) ?_ ?_
              · refine awTree.tk ?_
                refine awTree.tk ?_
                refine awTree.tk ?_
                refine awTree.fA ?_ ?_
                · refine awTree.tk ?_
                  exact awTree.dn
                · exact trivial
              · exact trivial
            · exact trivial
        · refine awTree.fA ?_ ?_
          · refine awTree.fA ?_ ?_
            · refine awTree.fC (c_value_Set _ smallO [67] (realO 5) (by decide +kernel)) ?_ ?_
              · refine awTree.tk ?_
                refine awTree.tk ?_
                refine awTree.tk ?_
                refine awTree.fA ?_ ?_
                · refine awTree.tk ?_
                  exact awTree.dn
                · exact trivial
              · exact trivial
            · exact trivial
          · exact trivial
      · refine awTree.fA ?_ ?_
        · refine awTree.fA ?_ ?_
          · refine awTree.fC (c_value_Real _ 5) ?_ ?_
            · refine awTree.fC (c_value_Set _ smallO [67] (realO 5) (by decide +kernel)) ?_ ?_
              · refine awTree.tk ?_
                refine awTree.tk ?_
                refine awTree.tk ?_
                refine awTree.fA ?_ ?_
                · refine awTree.tk ?_
                  exact awTree.dn
                · exact trivial
              · exact trivial
            · exact trivial
          · refine awTree.fC (c_value_Real _ 5) ?_ ?_
            · refine awTree.fA ?_ ?_
              · refine awTree.fC (c_value_Set _ smallO [67] (realO 5) (by decide +kernel)) ?_ ?_
                · refine awTree.tk ?_
                  refine awTree.tk ?_
                  refine awTree.tk ?_
                  refine awTree.fA ?_ ?_
                  · refine awTree.tk ?_
                    exact awTree.dn
                  · exact trivial
                · exact trivial
              · exact trivial
            · exact trivial
        · exact trivial
  skip
  skip
  skip
  skip
  skip
  skip
  skip
  refine AW.trim [1, 2, 3, 5, 7, 9, 10, 11, 13, 15, 16, 17] ?_
  refine AW.rSC ?_
  refine awOps.cons (awGuard.c1 (c_value_Set _ smallO [67] lqS (by decide +kernel)) ?_)
  refine awOps.rn ?_
  refine AW.trim [1, 2, 3, 5, 7, 9, 10, 11, 13, 15, 16, 17, 19] ?_
  refine AW.rSC ?_
  refine awOps.cons (awGuard.c1 (c_value_Int _ 1) ?_)
  refine awOps.rn ?_
  refine awOps.cons (awGuard.c1 (c_value_Int _ 1) ?_)
  refine awOps.rn ?_
  refine awOps.cons (awGuard.c1 (c_value_Set _ (intO 1) [67] (intO 1) (by decide +kernel)) ?_)
  refine awOps.rn ?_
  refine AW.trim [1, 2, 3, 5, 7, 9, 10, 11, 13, 15, 16, 17, 19, 21] ?_
  refine AW.rSC ?_
  refine awOps.cons (awGuard.c1 (c_value_Get _ lqT [67] (by decide +kernel)) ?_)
  refine awOps.rn ?_
  refine AW.trim [1, 2, 3, 5, 7, 9, 10, 11, 13, 15, 16, 17, 19, 21, 22, 23] ?_
  refine AW.rSC ?_
  refine awOps.cons (awGuard.c1 (c_value_Get _ smallO [67] (by decide +kernel)) ?_)
  refine awOps.rn ?_
  refine AW.trim [1, 2, 3, 5, 7, 9, 10, 11, 13, 15, 16, 17, 19, 21, 22, 23, 25] ?_
  refine AW.rSC ?_
  refine awOps.cons (awGuard.c1 (c_value_Int _ (-3)) ?_)
  refine awOps.rn ?_
  refine awOps.cons (awGuard.c1 (c_value_Number _ (intO (-3)) (by decide +kernel)) ?_)
  refine awOps.rn ?_
  refine AW.trim [1, 2, 3, 5, 7, 9, 10, 11, 13, 15, 16, 17, 19, 21, 22, 23, 25, 26, 27] ?_
  refine AW.rSC ?_
  refine awOps.cons (awGuard.c1 (c_value_Int _ 107375) ?_)
  refine awOps.rn ?_
  refine awOps.cons (awGuard.c1 (c_value_Number _ (intO 107375) (by decide +kernel)) ?_)
  refine awOps.rn ?_
  refine AW.trim [1, 2, 3, 5, 7, 9, 10, 11, 13, 15, 16, 17, 19, 21, 22, 23, 25, 26, 27, 29] ?_
  refine AW.rSC ?_
  refine awOps.cons (awGuard.c1 (c_value_String _ [49]) ?_)
  refine awOps.rn ?_
  refine awOps.cons (awGuard.c1 (c_value_Number _ (strO [49]) (by decide +kernel)) ?_)
  refine awOps.rn ?_
  refine AW.trim [1, 2, 3, 5, 7, 9, 10, 11, 13, 15, 16, 17, 19, 21, 22, 23, 25, 26, 27, 29, 31] ?_
  refine AW.seq ?_
  refine AW.rSC ?_
  refine awOps.cons (awGuard.c1 (c_value_Same _ (dictO lqP) smallO (by decide +kernel)) ?_)
  refine awOps.rn ?_
  refine AW.trim [1, 10, 16, 22, 23, 25, 26, 27, 29, 31, 183] ?_
  refine AW.c2 ?_ ?_
  · intro h106
    exfalso
    simp only [lw1, lw2, lw3, lw4, lw5, lw6, lw7, lw8, lw9, lw10, lw11, lw12, lw13] at h106
    revert h106
    decide
  · intro h106
    refine AW.skip ?_
    refine AW.seq ?_
    refine AW.fS [0, 1, 2, 3, 4, 5, 6, 7, 8, 9, 10, 11, 12, 13, 14, 15, 16, 17, 18, 19, 20, 21, 22, 23, 24, 25, 26, 27, 28, 29, 30, 31, 32, 33, 34, 35, 37, 36, 38, 39, 40, 41, 42, 44, 43, 45, 46, 47, 48, 49, 50, 51, 52] [] ?_
    refine awFun.rn ?_
    refine awFun.cG [213, 214] (fun hg => c_value_Depth _ smallO (by decide +kernel)) ?_
    refine awFun.rn ?_
    refine awFun.cG [218, 219] (fun hg => c_value_Drop _ lqT [67] (by decide +kernel)) ?_
    refine awFun.rn ?_
    refine awFun.cG [218, 220, 221] (fun hg => c_value_Same _ (dropO lqT [67]) smallO (by decide +kernel)) ?_
    refine awFun.rn ?_
    refine awFun.cG [225, 226] (fun hg => c_value_Clone _ smallO (by decide +kernel)) ?_
    refine awFun.rn ?_
    refine awFun.cG [225, 227, 228] (fun hg => c_value_Same _ smallO smallO (by decide +kernel)) ?_
    refine awFun.rn ?_
    refine awFun.cG [232, 233, 234] (fun hg => c_value_Same _ lqT smallO (by decide +kernel)) ?_
    refine awFun.rn ?_
    rw [Aw.awFun_nil, Aw.awPlan_nil]
    refine AW.trim [1, 10, 236] ?_
    refine AW.c2 ?_ ?_
    · intro h127
      exfalso
      simp only [lw14, lw15, lw16, lw17, lw18, lw19, lw20, lw21, lw22, lw23] at h127
      revert h127
      decide
    · intro h127
      refine AW.skip ?_
      refine AW.rSC ?_
      refine awOps.cons (awGuard.c1 (c_value_Swap _ smallO [5] [7] (by decide +kernel) (by decide +kernel) (by decide +kernel)) ?_)
      refine awOps.rn ?_
      refine AW.trim [1, 10, 32] ?_
      refine AW.rSC ?_
      refine awOps.cons (awGuard.c1 (c_value_Refs _ lqR (by decide +kernel)) ?_)
      refine awOps.rn ?_
      refine AW.trim [1, 10, 33] ?_
      rw [lw25, show intsAV [7] = [[.int .i64 7]] from rfl]
      refine AW.rSC ?_
      refine awOps.cons (awGuard.cG (fun hg => c_value_Check _ smallO (by decide +kernel)) ?_)
      refine awOps.rn ?_
      refine awOps.cons (awGuard.gT ?_)
      refine awOps.rn ?_
      refine awOps.cons (awGuard.cG (fun hg => c_value_Check _ (Pob.mk 10 0 0 [] [] []) (by decide +kernel)) ?_)
      refine awOps.rn ?_
      refine awOps.cons (awGuard.cG (fun hg => c_value_Bool _ true) ?_)
      refine awOps.rn ?_
      refine awOps.cons (awGuard.cG (fun hg => c_value_Check _ (boolO true) (by decide +kernel)) ?_)
      refine awOps.rn ?_
      refine awOps.cons (awGuard.gT ?_)
      refine awOps.rn ?_
      refine awOps.cons (awGuard.cG (fun hg => c_value_Check _ (Pob.mk 1 2 0 [] [] []) (by decide +kernel)) ?_)
      refine awOps.rn ?_
      refine awOps.cons (awGuard.gT ?_)
      refine awOps.rn ?_
      refine awOps.cons (awGuard.cG (fun hg => c_value_Check _ (Pob.mk 2 0 0 [120] [] []) (by decide +kernel)) ?_)
      refine awOps.rn ?_
      refine awOps.cons (awGuard.gT (hob := by simp only [go_sem, seval]; decide +kernel) ?_)
      refine awOps.rn ?_
      refine awOps.cons (awGuard.cT (c_lwArr _ (streamO smallO [120, 121, 122]) (lw_one _) (by decide +kernel)) ?_)
      refine awOps.rn ?_
      refine awOps.cons (awGuard.cG (fun hg => c_value_Check _ (arrO [streamO smallO [120, 121, 122]]) (by decide +kernel)) ?_)
      refine awOps.rn ?_
      refine awOps.cons (awGuard.cG (fun hg => c_value_Name _ [97, 0]) ?_)
      refine awOps.rn ?_
      refine awOps.cons (awGuard.cG (fun hg => c_value_Check _ (nameO [97, 0]) (by decide +kernel)) ?_)
      refine awOps.rn ?_
      refine awOps.cons (awGuard.cG (fun hg => c_value_Ref _ 0 0 (by decide +kernel)) ?_)
      refine awOps.rn ?_
      refine awOps.cons (awGuard.cG (fun hg => c_value_Check _ (refO 0 0) (by decide +kernel)) ?_)
      refine awOps.rn ?_
      refine awOps.cons (awGuard.gT ?_)
      refine awOps.rn ?_
      refine awOps.cons (awGuard.gT ?_)
      refine awOps.rn ?_
      refine awOps.cons (awGuard.cT (c_value_Check _ (Pob.mk 7 0 0 [] [[65]] []) (by decide +kernel)) ?_)
      refine awOps.rn ?_
      refine AW.trim [0] ?_
      refine AW.rt ?_
      rw [lw26, lw27, lw28, lw29, lw30, lw31, lw32, lw33, lw34]
      rfl
end Go.Proofs

namespace Aw
open Go
def flatKV (l : List (List UInt8 × Pob)) : List Pob := l.flatMap fun p => [nameO p.1, p.2]
theorem setAdd_mem {α : Type} [DecidableEq α] {s : List α} {k x : α} : x ∈ setAdd s k ↔ x ∈ s ∨ x = k := by
  unfold setAdd
  split
  · rename_i h
    constructor
    · exact .inl
    · rintro (g | rfl)
      · exact g
      · exact h
  · simp
theorem dictL_flat : ∀ (l : List (List UInt8 × Pob)) (met : List (List UInt8)) (o : Pob), (∀ p ∈ l, p.2.kind ≠ 0) → (l.map (·.1)).Nodup → (∀ p ∈ l, p.1 ∉ met) → o.kvOk →
    ∃ x, dictL (flatKV l) met o = some x ∧ x.kvOk ∧ (x.kind = o.kind ∧ x.num = o.num ∧ x.gen = o.gen ∧ x.str = o.str) ∧ ∀ k v, x.has k v ↔ (k, v) ∈ l ∨ ((∀ p ∈ l, p.1 ≠ k) ∧ o.has k v)
  | [], met, o, _, _, _, hs => by
    refine ⟨o, by simp only [flatKV, List.flatMap_nil, dictL], hs, ⟨rfl, rfl, rfl, rfl⟩, fun k v => ?_⟩
    simp
  | (k0, v0) :: l, met, o, h1, h2, h3, hs => by
    have hm : k0 ∉ met := h3 (k0, v0) List.mem_cons_self
    rw [List.map_cons, List.nodup_cons] at h2
    have h21 : k0 ∉ l.map (·.1) := h2.1
    obtain ⟨x, e, hx, f, hh⟩ := dictL_flat l (setAdd met k0) (o.withK k0 v0) (fun p hp => h1 p (List.mem_cons_of_mem _ hp)) h2.2
      (fun p hp hin => by
        rcases setAdd_mem.1 hin with g | g
        · exact h3 p (List.mem_cons_of_mem _ hp) g
        · exact h21 (by rw [← g]; exact List.mem_map_of_mem (f := fun p : List UInt8 × Pob => p.1) hp)) (withK_kvOk hs _ _)
    have hv : v0.kind ≠ 0 := h1 (k0, v0) List.mem_cons_self
    obtain ⟨g1, g2, g3, g4⟩ := withK_frame o k0 v0
    obtain ⟨f1, f2, f3, f4⟩ := f
    refine ⟨x, ?_, hx, ⟨f1.trans g1, f2.trans g2, f3.trans g3, f4.trans g4⟩, fun k v => ?_⟩
    · have : flatKV ((k0, v0) :: l) = nameO k0 :: v0 :: flatKV l := rfl
      rw [this]
      simp only [dictL]
      have hn : (nameO k0).str = k0 := rfl
      rw [hn, if_neg hm, if_pos hv]
      exact e
    · rw [hh, has_withK hs]
      have hkl : ∀ w, (k0, w) ∉ l := fun w hw => h21 (List.mem_map_of_mem (f := (·.1)) hw)
      constructor
      · rintro (g | ⟨g, ⟨rfl, rfl⟩ | ⟨g5, g6⟩⟩)
        · exact .inl (List.mem_cons_of_mem _ g)
        · exact .inl List.mem_cons_self
        · refine .inr ⟨fun p hp => ?_, g6⟩
          rcases List.mem_cons.1 hp with e | hp
          · rw [e]; exact fun e => g5 e.symm
          · exact g p hp
      · rintro (g | ⟨g, g6⟩)
        · rcases List.mem_cons.1 g with g | g
          · injection g with a b
            subst a b
            refine .inr ⟨fun p hp e => h21 ?_, .inl ⟨rfl, rfl⟩⟩
            rw [← e]
            exact List.mem_map_of_mem (f := fun p : List UInt8 × Pob => p.1) hp
          · exact .inl g
        · exact .inr ⟨fun p hp => g p (List.mem_cons_of_mem _ hp), .inr ⟨fun e => g (k0, v0) List.mem_cons_self e.symm, g6⟩⟩
theorem dictArg_flat (l : List (List UInt8 × Pob)) : dictArg (flatKV l) = true := by
  have hl : ∀ l, (flatKV l).length = 2 * l.length := by
    intro l
    induction l with
    | nil => rfl
    | cons p l ih => simp only [flatKV, List.flatMap_cons, List.length_append, List.length_cons, List.length_nil] at ih ⊢; omega
  have hk : ∀ (l : List (List UInt8 × Pob)) (i : Nat), i < (flatKV l).length → i % 2 = 0 → ((flatKV l).getD i Pob.null).kind = 5 := by
    intro l
    induction l with
    | nil => intro i hi; simp [flatKV] at hi
    | cons p l ih =>
      intro i hi h2
      have e : flatKV (p :: l) = nameO p.1 :: p.2 :: flatKV l := rfl
      rw [e] at hi ⊢
      match i, h2, hi with
      | 0, _, _ => rfl
      | 1, h2, _ => omega
      | i + 2, h2, hi =>
        simp only [List.getD_cons_succ]
        exact ih i (by simpa using hi) (by omega)
  simp only [dictArg, Bool.and_eq_true, decide_eq_true_eq]
  exact ⟨by rw [hl]; omega, hk l⟩
def rot (n t j : Nat) : Nat := (j + t) % n
theorem rot_eq {n t j : Nat} (ht : t < n) (hj : j < n) : rot n t j = if j + t < n then j + t else j + t - n := by
  unfold rot
  split
  · rename_i h; exact Nat.mod_eq_of_lt h
  · rw [Nat.mod_eq_sub_mod (by omega), Nat.mod_eq_of_lt (by omega)]
/-- the first 'i' pairs, from the 't'-th on -/
def rotP (o : Pob) (t i : Nat) : List (List UInt8 × Pob) := (List.range i).map fun j => (o.keys.getD (rot o.keys.length t j) [], o.kids.getD (rot o.keys.length t j) Pob.null)
def rotL (o : Pob) (t i : Nat) : List Pob := flatKV (rotP o t i)
theorem rotL_succ (o : Pob) (t i : Nat) : rotL o t (i + 1) = rotL o t i ++ [nameO (o.keys.getD (rot o.keys.length t i) []), o.kids.getD (rot o.keys.length t i) Pob.null] := by
  simp [rotL, rotP, List.range_succ, flatKV]
theorem rotL_zero (o : Pob) (t : Nat) : rotL o t 0 = [] := rfl
theorem rotL_length (o : Pob) (t i : Nat) : (rotL o t i).length = 2 * i := by
  induction i with
  | zero => rfl
  | succ i ih => rw [rotL_succ, List.length_append, ih]; simp; omega
theorem dict_rot {o : Pob} (h : chk o 1 = 0) (hk : o.kind = 7) {t : Nat} (ht : t < o.keys.length ∨ o.keys.length = 0) : dictE (rotL o t o.keys.length) = 0 ∧ dictO (rotL o t o.keys.length) = o := by
  have hk' : keyedB o.kind = true := by simp [keyedB, hk]
  obtain ⟨⟨_, h2, h3, h4, _⟩, hs, h8⟩ := (chk_keyed hk').1 h
  have hmem : ∀ k v, (k, v) ∈ rotP o t o.keys.length ↔ o.has k v := by
    intro k v
    simp only [rotP, List.mem_map, List.mem_range, Prod.mk.injEq]
    constructor
    · rintro ⟨j, hj, e1, e2⟩
      refine ⟨_, ?_, e1, e2⟩
      rw [rot_eq (by omega) hj]
      split <;> omega
    · rintro ⟨i, hi, e1, e2⟩
      by_cases g : t ≤ i
      · refine ⟨i - t, by omega, ?_, ?_⟩ <;> rw [rot_eq (by omega) (by omega), if_pos (by omega), Nat.sub_add_cancel g] <;> assumption
      · refine ⟨i + o.keys.length - t, by omega, ?_, ?_⟩ <;> rw [rot_eq (by omega) (by omega), if_neg (by omega), show i + o.keys.length - t + t - o.keys.length = i from by omega] <;> assumption
  obtain ⟨x, e, hx, ⟨f1, f2, f3, f4⟩, hh⟩ := dictL_flat (rotP o t o.keys.length) [] dict0 (fun p hp => (h8 p.1 p.2 ((hmem _ _).1 hp)).2.2.1)
    (by
      rw [rotP, List.map_map, List.nodup_iff_pairwise_ne, List.pairwise_map]
      refine (List.Pairwise.and_mem.1 List.nodup_range).imp ?_
      rintro a b ⟨ha, hb, hab⟩ e
      rw [List.mem_range] at ha hb
      simp only [Function.comp] at e
      have := incr_inj hs.1 (by rw [rot_eq (by omega) ha]; split <;> omega) (by rw [rot_eq (by omega) hb]; split <;> omega) e
      rw [rot_eq (by omega) ha, rot_eq (by omega) hb] at this
      apply hab
      split at this <;> split at this <;> omega)
    (fun p _ hp => by cases hp) ⟨fun a b _ hb => by simp [dict0, Pob.keys_mk] at hb, rfl⟩
  have hxo : x = o := by
    have hs' : o.str = [] := by
      rcases h4 with g | g
      · omega
      · exact g
    refine kv_ext hx hs (by rw [f1, hk]; rfl) (by rw [f2, h2]; rfl) (by rw [f3, h3]; rfl) (by rw [f4, hs']; rfl) fun k v => ?_
    rw [hh, hmem]
    constructor
    · rintro (g | ⟨_, i, hi, _⟩)
      · exact g
      · simp [dict0, Pob.keys_mk] at hi
    · exact .inl
  subst hxo
  have := dict_some (dictArg_flat _) e
  rw [h] at this
  simpa [rotL] using this
theorem dict_stream {o : Pob} {s : List UInt8} (h : chk o 1 = 0) (hk : o.kind = 7) (hl : s.length ≤ 3000) : streamE o s = 0 ∧ (streamO o s).str = s ∧ (streamO o s).kind = 9 ∧ chk (streamO o s) 1 = 0 ∧
    ∀ i, i < o.keys.length → getB (streamO o s) (o.keys.getD i []) = decide (o.keys.getD i [] ≠ lengthK) ∧ (o.keys.getD i [] ≠ lengthK → getO (streamO o s) (o.keys.getD i []) = o.kids.getD i Pob.null) := by
  have hk' : keyedB o.kind = true := by simp [keyedB, hk]
  obtain ⟨ds, dh⟩ := dropO_has (key := lengthK) h hk'
  obtain ⟨g1, g2, g3, g4⟩ := dropO_frame o lengthK
  have hl2 := dropO_len o lengthK
  obtain ⟨⟨h1, h2, h3, h4, h5, h6, h7⟩, hs, h8⟩ := (chk_keyed hk').1 h
  have hxk : keyedB ((dropO o lengthK).strm s).kind = true := by simp [Pob.strm, Pob.kind_mk, keyedB]
  have hxs : ((dropO o lengthK).strm s).kvOk := ds
  have hxh : ∀ k v, ((dropO o lengthK).strm s).has k v ↔ k ≠ lengthK ∧ o.has k v := dh
  have hc : chk ((dropO o lengthK).strm s) 1 = 0 := by
    rw [chk_keyed hxk]
    refine ⟨⟨by omega, by simp only [Pob.strm, Pob.num_mk]; omega, by simp only [Pob.strm, Pob.gen_mk]; omega, .inl rfl, .inl rfl, by simp only [Pob.strm, Pob.str_mk]; omega, by simp only [Pob.strm, Pob.kids_mk]; omega⟩, hxs, fun k v hv => ?_⟩
    obtain ⟨hne, hv⟩ := (hxh k v).1 hv
    obtain ⟨a, _, c, d⟩ := h8 k v hv
    exact ⟨a, fun hh => hne hh.2, c, d⟩
  obtain ⟨e1, e2⟩ := stream_ok (s := s) hk h
  rw [hc] at e1
  rw [if_pos hc] at e2
  rw [e2]
  refine ⟨e1, rfl, rfl, hc, fun i hi => ?_⟩
  by_cases hne : o.keys.getD i [] = lengthK
  · refine ⟨?_, fun hh => absurd hne hh⟩
    rw [(get_no hxs hxk fun v hv => ((hxh _ _).1 hv).1 hne).1, decide_eq_false (fun h => h hne)]
  · have := (get_has hxs hxk (k := o.keys.getD i []) (v := o.kids.getD i Pob.null)).2 ((hxh _ _).2 ⟨hne, i, hi, rfl, rfl⟩)
    exact ⟨by rw [this.1]; simp only [ne_eq, hne, not_false_eq_true, decide_true], fun _ => this.2⟩
end Aw

namespace Go.Proofs
open Go Aw
set_option linter.unusedSimpArgs false
set_option linter.unusedVariables false
set_option maxRecDepth 100000
set_option maxHeartbeats 2000000

theorem setO_bulk (o : Pob) (key : List UInt8) (v : Pob) : (setO o key v).bulk ≤ o.bulk + v.bulk + 2 := by
  unfold setO
  split
  · have : Pob.null.bulk = 1 := rfl
    omega
  · split
    · have := dropO_bulk o key; omega
    · exact Pob.withK_bulk o key v
theorem c_law_ValueSet (gl : List (Nat × AV)) (o v w : Pob) (key other : List UInt8) (ho : o.tot ≤ 1048576) (hv : v.tot ≤ 1048576) (hw : w.tot ≤ 1048576) : FnP Try.prog (gl) 8 [.agg o.cells, .agg v.cells, .agg w.cells, .str key, .str other] fun r => r = .ret (.bool true) := by
  refine FnP.intro Try.func8 rfl rfl (by simp [Try.ntmps8]) ?_
  simp only [argEnv, Try.ntmps8, Try.results8]
  have hb1 := Pob.bulk_tot o
  have hp1 := Pob.psize_tot o
  have hb2 := Pob.bulk_tot v
  have hp2 := Pob.psize_tot v
  have hb3 := Pob.bulk_tot w
  have hp3 := Pob.psize_tot w
  have hx := setO_bulk o key v
  have hz := setO_bulk o key w
  have hy := setO_bulk (setO o key v) key w
  have hd := dropO_bulk (setO o key v) key
  have he := setO_bulk (dropO (setO o key v) key) key v
  have hg1 := get_bulk (setO o key v) key
  have hg2 := get_bulk (setO o key v) other
  have hg3 := get_bulk o other
  refine AW.rS ?_
  refine AW.trim [3, 4, 5, 6, 7] ?_
  refine AW.seq ?_
  refine AW.rSC ?_
  refine awOps.cons (awGuard.c1 (c_law05_lives _) ?_)
  refine awOps.rn ?_
  refine AW.trim [3, 4, 5, 6, 7, 29] ?_
  refine AW.c2 ?_ ?_
  · intro h6
    simp at h6
  · intro h6
    refine AW.skip ?_
    refine AW.seq ?_
    refine AW.fS [0, 2, 5, 1, 3, 4, 6, 7, 8] [] ?_
    refine awFun.rn ?_
    refine awFun.c1 [30] (c_foliantref05_Size _ o (by omega) (by omega)) ?_
    refine awFun.rn ?_
    refine awFun.c1 [32] (c_foliantref05_Size _ v (by omega) (by omega)) ?_
    refine awFun.rn ?_
    refine awFun.c1 [35] (c_foliantref05_Size _ w (by omega) (by omega)) ?_
    refine awFun.rn ?_
    rw [Aw.awFun_nil, Aw.awPlan_nil]
    refine AW.trim [3, 4, 5, 6, 7, 38] ?_
    refine AW.c2 ?_ ?_
    · intro h21
      refine AW.rS ?_
      refine AW.trim [10] ?_
      refine AW.rt ?_
      all_goals first | contradiction | rfl | (simp; done) | (simp; omega)
    · intro h21
      refine AW.skip ?_
      refine AW.rSC ?_
      refine awOps.cons (awGuard.c1 (c_value_Set _ o key v (by omega)) ?_)
      refine awOps.rn ?_
      refine AW.trim [3, 4, 5, 6, 7, 11, 12] ?_
      refine AW.seq ?_
      refine AW.rS ?_
      refine AW.trim [3, 4, 5, 6, 7, 11, 47] ?_
      refine AW.c2 ?_ ?_
      · intro h31
        refine AW.rS ?_
        refine AW.trim [10] ?_
        refine AW.rt ?_
        rw [set_err h31]; rfl
      · intro h31
        obtain ⟨hk, hc, hs, hcx, f1, f2, f3, f4, hh⟩ := set_parts h31
        obtain ⟨q1, q2, q3⟩ := set_get h31
        obtain ⟨r1, r2, r3⟩ := set_drop h31
        obtain ⟨t1, t2⟩ := set_twice h31 w
        refine AW.skip ?_
        refine AW.rSC ?_
        refine awOps.cons (awGuard.c1 (c_value_Get _ (setO o key v) key (by omega)) ?_)
        refine awOps.rn ?_
        refine AW.trim [3, 4, 5, 6, 7, 11, 13, 14] ?_
        refine AW.rSC ?_
        refine awOps.cons (awGuard.c1 (c_value_Get _ (setO o key v) other (by omega)) ?_)
        refine awOps.rn ?_
        refine AW.trim [3, 4, 5, 6, 7, 11, 13, 14, 15, 16] ?_
        refine AW.rSC ?_
        refine awOps.cons (awGuard.c1 (c_value_Get _ o other (by omega)) ?_)
        refine awOps.rn ?_
        refine AW.trim [3, 4, 5, 6, 7, 11, 13, 14, 15, 16, 17, 18] ?_
        refine AW.seq ?_
        refine AW.rSC ?_
        refine awOps.cons (awGuard.cG (fun hg => c_value_Same _ (getO (setO o key v) key) v (by omega)) ?_)
        refine awOps.rn ?_
        refine awOps.cons (awGuard.cG (fun hg => c_value_Same _ (getO (setO o key v) other) (getO o other) (by omega)) ?_)
        refine awOps.rn ?_
        refine awOps.cons (awGuard.cG (fun hg => c_value_Check _ (setO o key v) (by omega)) ?_)
        refine awOps.rn ?_
        refine AW.trim [3, 5, 6, 7, 11, 109] ?_
        refine AW.c2 ?_ ?_
        · intro h53
          exfalso
          rw [q1, hcx] at h53
          by_cases hv0 : v.kind = 0
          · by_cases hko : other = key
            · simp [hv0, hko] at h53
            · simp [hv0, hko, (q3 other hko).1, (q3 other hko).2] at h53
          · by_cases hko : other = key
            · simp [hv0, hko, q2 hv0] at h53
            · simp [hv0, hko, q2 hv0, (q3 other hko).1, (q3 other hko).2] at h53
        · intro h53
          refine AW.skip ?_
          refine AW.rSC ?_
          refine awOps.cons (awGuard.c1 (c_value_Drop _ (setO o key v) key (by omega)) ?_)
          refine awOps.rn ?_
          refine AW.trim [3, 5, 6, 7, 11, 19] ?_
          refine AW.rSC ?_
          refine awOps.cons (awGuard.c1 (c_value_Get _ (dropO (setO o key v) key) key (by omega)) ?_)
          refine awOps.rn ?_
          refine AW.trim [3, 5, 6, 7, 11, 19, 21] ?_
          refine AW.rSC ?_
          refine awOps.cons (awGuard.c1 (c_value_Set _ (dropO (setO o key v) key) key v (by omega)) ?_)
          refine awOps.rn ?_
          refine AW.trim [3, 5, 7, 11, 21, 22, 23] ?_
          refine AW.rSC ?_
          refine awOps.cons (awGuard.c1 (c_value_Set _ (setO o key v) key w (by omega)) ?_)
          refine awOps.rn ?_
          refine AW.trim [3, 5, 7, 11, 21, 22, 23, 24, 25] ?_
          refine AW.rSC ?_
          refine awOps.cons (awGuard.c1 (c_value_Set _ o key w (by omega)) ?_)
          refine awOps.rn ?_
          refine AW.trim [11, 21, 22, 23, 24, 25, 26, 27] ?_
          refine AW.rSC ?_
          refine awOps.cons (awGuard.cG (fun hg => c_value_Same _ (setO (dropO (setO o key v) key) key v) (setO o key v) (by omega)) ?_)
          refine awOps.rn ?_
          refine awOps.cons (awGuard.cG (fun hg => c_value_Same _ (setO (setO o key v) key w) (setO o key w) (by omega)) ?_)
          refine awOps.rn ?_
          refine AW.trim [10] ?_
          refine AW.rt ?_
          rw [r1, r2, r3, t1, t2]; simp
end Go.Proofs
