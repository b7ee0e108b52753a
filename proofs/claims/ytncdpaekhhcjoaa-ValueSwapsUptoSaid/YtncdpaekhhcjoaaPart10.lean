/- A part of the proof of a law of the seat: no condition of its own. -/
import Derived.Test.YtncdpaekhhcjoaaPart9
namespace Go.Proofs
open Go Aw
set_option linter.unusedSimpArgs false
set_option linter.unusedVariables false
set_option maxRecDepth 100000
set_option maxHeartbeats 4000000

attribute [go_sem] List.getD_cons_zero List.length_cons List.length_nil
def smallO : Pob := .mk 7 0 0 [] [[65], [66]] [.mk 2 1 0 [] [] [], .mk 6 0 0 [] [] [.mk 8 5 0 [] [] [], .mk 0 0 0 [] [] []]]
theorem c_law05_Small (gl : List (Nat × AV))  : FnP Try.prog (gl) 77 [] fun r => r = .ret (.agg smallO.cells) := by
  refine FnP.intro Try.func77 rfl rfl (by simp [Try.ntmps77]) ?_
  simp only [argEnv, Try.ntmps77, Try.results77]
  refine AW.rS ?_
  refine AW.rS ?_
  refine AW.rt ?_
  all_goals first | contradiction | rfl | (simp; done) | (simp; omega)
def lqP : List Pob := [nameO [66], arrO [refO 5 0, Pob.null], nameO [67], Pob.null, nameO [65], intO 1]
def lqS : Pob := streamO smallO [120, 121, 122]
def lqT : Pob := setO smallO [67] (realO 5)
def lqR : Pob := smallO.swap [5] [7]
theorem lw1 : dictO lqP = smallO := by decide +kernel
theorem lw2 : dictE lqP = 0 := by decide +kernel
theorem lw3 : dictE [nameO [65]] = 1 := by decide +kernel
theorem lw4 : dictE [intO 1, intO 1] = 1 := by decide +kernel
theorem lw5 : dictE [nameO [65], intO 1, nameO [65], Pob.null] = 9 := by decide +kernel
theorem lw6 : (streamO smallO [120, 121, 122]).kind = 9 := by decide +kernel
theorem lw7 : (streamO smallO [120, 121, 122]).str = [120, 121, 122] := by decide +kernel
theorem lw8 : streamE smallO [120, 121, 122] = 0 := by decide +kernel
theorem lw9 : streamE (intO 1) [] = 10 := by decide +kernel
theorem lw10 : setE lqS [76, 101, 110, 103, 116, 104] (intO 3) = 3 := by decide +kernel
theorem lw11 : setE smallO [67] (realO 5) = 0 := by decide +kernel
theorem lw12 : setE smallO [67] lqS = 10 := by decide +kernel
theorem lw13 : setE (intO 1) [67] (intO 1) = 10 := by decide +kernel
theorem lw14 : getB lqT [67] = true := by decide +kernel
theorem lw15 : getO lqT [67] = realO 5 := by decide +kernel
theorem lw16 : getB smallO [67] = false := by decide +kernel
theorem lw17 : numI (intO (-3)) = -30000 := by decide +kernel
theorem lw18 : numB (intO (-3)) = true := by decide +kernel
theorem lw19 : numB (intO 107375) = false := by decide +kernel
theorem lw20 : numB (strO [49]) = false := by decide +kernel
theorem lw21 : smallO.depth = 3 := by decide +kernel
theorem lw22 : dropO lqT [67] = smallO := by decide +kernel
theorem lw23 : ¬ lqT = smallO := by decide +kernel
theorem lw24 : lqR.pre.foldl refStp [] = [7] := by decide +kernel
theorem lw25 : refsO lqR = [7] := by rw [refsO, lw24]; simp [sortI]
theorem lw26 : chk smallO 1 = 0 := by decide +kernel
theorem lw27 : chk (Pob.mk 10 0 0 [] [] []) 1 = 10 := by decide +kernel
theorem lw28 : chk (boolO true) 1 = 0 := by decide +kernel
theorem lw29 : chk (Pob.mk 1 2 0 [] [] []) 1 = 2 := by decide +kernel
theorem lw30 : chk (Pob.mk 2 0 0 [120] [] []) 1 = 10 := by decide +kernel
theorem lw31 : chk (arrO [streamO smallO [120, 121, 122]]) 1 = 10 := by decide +kernel
theorem lw32 : chk (nameO [97, 0]) 1 = 3 := by decide +kernel
theorem lw33 : chk (refO 0 0) 1 = 2 := by decide +kernel
theorem lw34 : chk (Pob.mk 7 0 0 [] [[65]] []) 1 = 3 := by decide +kernel
theorem objsAV_one (o : Pob) : objsAV [o] = [[.int .i64 o.kind, .int .i64 o.num, .int .i64 o.gen, .str o.str, .sl (strsAV o.keys), .sl (objsAV o.kids)]] := by cases o; rfl
theorem c_lwArr (gl : List (Nat × AV)) (o : Pob) (h : objsAV [o] = [[.int .i64 o.kind, .int .i64 o.num, .int .i64 o.gen, .str o.str, .sl (strsAV o.keys), .sl (objsAV o.kids)]]) (hb : (arrO [o]).bulk ≤ 16777216) : FnP Try.prog gl 78 [.sl [[.int .i64 o.kind, .int .i64 o.num, .int .i64 o.gen, .str o.str, .sl (strsAV o.keys), .sl (objsAV o.kids)]]] fun r => r = .ret (.agg (arrO [o]).cells) := by
  rw [← h]
  exact c_value_Array gl [o] hb
theorem c_law05_lives (gl : List (Nat × AV))  : FnP Try.prog (gl) 38 [] fun r => r = .ret (.bool true) := by
  refine FnP.intro Try.func38 rfl rfl (by simp [Try.ntmps38]) ?_
  simp only [argEnv, Try.ntmps38, Try.results38]
  refine AW.rS ?_
  refine AW.trim [] ?_
  refine AW.rSC ?_
  refine awOps.cons (awGuard.c1 (c_law05_Small _) ?_)
  refine awOps.rn ?_
  refine AW.trim [1] ?_
  refine AW.rSC ?_
  refine awOps.cons (awGuard.c1 (c_value_Name _ [66]) ?_)
  refine awOps.rn ?_
  refine awOps.cons (awGuard.c1 (c_value_Ref _ 5 0) ?_)
  refine awOps.rn ?_
  refine awOps.cons (awGuard.c1 (c_value_Null _) ?_)
  refine awOps.rn ?_
  refine awOps.cons (awGuard.c1 (c_value_Array _ [refO 5 0, Pob.null] (by decide +kernel)) ?_)
  refine awOps.rn ?_
  refine awOps.cons (awGuard.c1 (c_value_Name _ [67]) ?_)
  refine awOps.rn ?_
  refine awOps.cons (awGuard.c1 (c_value_Null _) ?_)
  refine awOps.rn ?_
  refine awOps.cons (awGuard.c1 (c_value_Name _ [65]) ?_)
  refine awOps.rn ?_
  refine awOps.cons (awGuard.c1 (c_value_Int _ 1) ?_)
  refine awOps.rn ?_
  refine awOps.cons (awGuard.c1 (c_value_Dict _ lqP (by decide +kernel)) ?_)
  refine awOps.rn ?_
  refine AW.trim [1, 2, 3] ?_
  refine AW.rSC ?_
  refine awOps.cons (awGuard.c1 (c_value_Name _ [65]) ?_)
  refine awOps.rn ?_
  refine awOps.cons (awGuard.c1 (c_value_Dict _ [nameO [65]] (by decide +kernel)) ?_)
  refine awOps.rn ?_
  refine AW.trim [1, 2, 3, 5] ?_
  refine AW.rSC ?_
  refine awOps.cons (awGuard.c1 (c_value_Int _ 1) ?_)
  refine awOps.rn ?_
  refine awOps.cons (awGuard.c1 (c_value_Int _ 1) ?_)
  refine awOps.rn ?_
  refine awOps.cons (awGuard.c1 (c_value_Dict _ [intO 1, intO 1] (by decide +kernel)) ?_)
  refine awOps.rn ?_
  refine AW.trim [1, 2, 3, 5, 7] ?_
  refine AW.rSC ?_
  refine awOps.cons (awGuard.c1 (c_value_Name _ [65]) ?_)
  refine awOps.rn ?_
  refine awOps.cons (awGuard.c1 (c_value_Int _ 1) ?_)
  refine awOps.rn ?_
  refine awOps.cons (awGuard.c1 (c_value_Name _ [65]) ?_)
  refine awOps.rn ?_
  refine awOps.cons (awGuard.c1 (c_value_Null _) ?_)
  refine awOps.rn ?_
  refine awOps.cons (awGuard.c1 (c_value_Dict _ [nameO [65], intO 1, nameO [65], Pob.null] (by decide +kernel)) ?_)
  refine awOps.rn ?_
  refine AW.trim [1, 2, 3, 5, 7, 9] ?_
  refine AW.rSC ?_
  refine awOps.cons (awGuard.c1 (c_value_Stream _ smallO [120, 121, 122] (by decide +kernel)) ?_)
  refine awOps.rn ?_
  refine AW.trim [1, 2, 3, 5, 7, 9, 10, 11] ?_
  refine AW.rSC ?_
  refine awOps.cons (awGuard.c1 (c_value_Int _ 1) ?_)
  refine awOps.rn ?_
  refine awOps.cons (awGuard.c1 (c_value_Stream _ (intO 1) [] (by decide +kernel)) ?_)
  refine awOps.rn ?_
  refine AW.trim [1, 2, 3, 5, 7, 9, 10, 11, 13] ?_
  refine AW.tG (σf := ?sf8) (.fork 0 (.fork 1 (.fork 2 (.take 3 0 (.take 4 0 (.take 5 0 (.fork 6 (.fork 7 (.take 8 0 .done) .stop) .stop)))) (.fork 6 (.fork 2 (.take 3 0 (.take 4 0 (.take 5 0 (.fork 7 (.take 8 0 .done) .stop)))) .stop) .stop)) (.fork 6 (.fork 1 (.fork 2 (.take 3 0 (.take 4 0 (.take 5 0 (.fork 7 (.take 8 0 .done) .stop)))) .stop) .stop) .stop)) (.fork 1 (.fork 0 (.fork 2 (.take 3 0 (.take 4 0 (.take 5 0 (.fork 6 (.fork 7 (.take 8 0 .done) .stop) .stop)))) (.fork 6 (.fork 2 (.take 3 0 (.take 4 0 (.take 5 0 (.fork 7 (.take 8 0 .done) .stop)))) .stop) .stop)) (.fork 6 (.fork 0 (.fork 2 (.take 3 0 (.take 4 0 (.take 5 0 (.fork 7 (.take 8 0 .done) .stop)))) .stop) .stop) .stop)) (.fork 6 (.fork 0 (.fork 1 (.fork 2 (.take 3 0 (.take 4 0 (.take 5 0 (.fork 7 (.take 8 0 .done) .stop)))) .stop) .stop) (.fork 1 (.fork 0 (.fork 2 (.take 3 0 (.take 4 0 (.take 5 0 (.fork 7 (.take 8 0 .done) .stop)))) .stop) .stop) .stop)) .stop))) ?tree8 ?rest8
  case tree8 =>
    refine awTree.fA ?_ ?_
    · refine awTree.fC (c_value_Int _ 3) ?_ ?_
      · refine awTree.fC (c_value_Set _ lqS [76, 101, 110, 103, 116, 104] (intO 3) (by decide +kernel)) ?_ ?_
        · refine awTree.tk ?_
          refine awTree.tk ?_
          refine awTree.tk ?_
          refine awTree.fA ?_ ?_
          · refine awTree.fA ?_ ?_
            · refine awTree.tk ?_
              exact awTree.dn
            · exact trivial
          · exact trivial
        · refine awTree.fA ?_ ?_
          · refine awTree.fC (c_value_Set _ lqS [76, 101, 110, 103, 116, 104] (intO 3) (by decide +kernel)) ?_ ?_
            · refine awTree.tk ?_
              refine awTree.tk ?_
              refine awTree.tk ?_
              refine awTree.fA ?_ ?_
              · refine awTree.tk ?_
                exact awTree.dn
              · exact trivial
            · exact trivial
          · exact trivial
      · refine awTree.fA ?_ ?_
        · refine awTree.fC (c_value_Int _ 3) ?_ ?_
          · refine awTree.fC (c_value_Set _ lqS [76, 101, 110, 103, 116, 104] (intO 3) (by decide +kernel)) ?_ ?_
            · refine awTree.tk ?_
              refine awTree.tk ?_
              refine awTree.tk ?_
              refine awTree.fA ?_ ?_
              · refine awTree.tk ?_
                exact awTree.dn
              · exact trivial
            · exact trivial
          · exact trivial
        · exact trivial
    · refine awTree.fC (c_value_Int _ 3) ?_ ?_
      · refine awTree.fA ?_ ?_
        · refine awTree.fC (c_value_Set _ lqS [76, 101, 110, 103, 116, 104] (intO 3) (by decide +kernel)) ?_ ?_
          · refine awTree.tk ?_
            refine awTree.tk ?_
            refine awTree.tk ?_
            refine awTree.fA ?_ ?_
            · refine awTree.fA ?_ ?_
              · refine awTree.tk ?_
                exact awTree.dn
              · exact trivial
            · exact trivial
          · refine awTree.fA ?_ ?_
            · refine awTree.fC (c_value_Set _ lqS [76, 101, 110, 103, 116, 104] (intO 3) (by decide +kernel)) ?_ ?_
              · refine awTree.tk ?_
                refine awTree.tk ?_
                refine awTree.tk ?_
                refine awTree.fA ?_ ?_
                · refine awTree.tk ?_
                  exact awTree.dn
                · exact trivial
              · exact trivial
            · exact trivial
        · refine awTree.fA ?_ ?_
          · refine awTree.fA ?_ ?_
            · refine awTree.fC (c_value_Set _ lqS [76, 101, 110, 103, 116, 104] (intO 3) (by decide +kernel)) ?_ ?_
              · refine awTree.tk ?_
                refine awTree.tk ?_
                refine awTree.tk ?_
                refine awTree.fA ?_ ?_
                · refine awTree.tk ?_
                  exact awTree.dn
                · exact trivial
              · exact trivial
            · exact trivial
          · exact trivial
      · refine awTree.fA ?_ ?_
        · refine awTree.fA ?_ ?_
          · refine awTree.fC (c_value_Int _ 3) ?_ ?_
            · refine awTree.fC (c_value_Set _ lqS [76, 101, 110, 103, 116, 104] (intO 3) (by decide +kernel)) ?_ ?_
              · refine awTree.tk ?_
                refine awTree.tk ?_
                refine awTree.tk ?_
                refine awTree.fA ?_ ?_
                · refine awTree.tk ?_
                  exact awTree.dn
                · exact trivial
              · exact trivial
            · exact trivial
          · refine awTree.fC (c_value_Int _ 3) ?_ ?_
            · refine awTree.fA ?_ ?_
              · refine awTree.fC (c_value_Set _ lqS [76, 101, 110, 103, 116, 104] (intO 3) (by decide +kernel)) ?_ ?_
                · refine awTree.tk ?_
                  refine awTree.tk ?_
                  refine awTree.tk ?_
                  refine awTree.fA ?_ ?_
                  · refine awTree.tk ?_
                    exact awTree.dn
                  · exact trivial
                · exact trivial
              · exact trivial
            · exact trivial
        · exact trivial
  skip
  skip
  skip
  skip
  skip
  skip
  skip
  refine AW.trim [1, 2, 3, 5, 7, 9, 10, 11, 13, 15] ?_
  refine AW.tG (σf := ?sf9) (.fork 0 (.fork 1 (.fork 2 (.take 3 0 (.take 4 0 (.take 5 0 (.fork 6 (.fork 7 (.take 8 0 .done) .stop) .stop)))) (.fork 6 (.fork 2 (.take 3 0 (.take 4 0 (.take 5 0 (.fork 7 (.take 8 0 .done) .stop)))) .stop) .stop)) (.fork 6 (.fork 1 (.fork 2 (.take 3 0 (.take 4 0 (.take 5 0 (.fork 7 (.take 8 0 .done) .stop)))) .stop) .stop) .stop)) (.fork 1 (.fork 0 (.fork 2 (.take 3 0 (.take 4 0 (.take 5 0 (.fork 6 (.fork 7 (.take 8 0 .done) .stop) .stop)))) (.fork 6 (.fork 2 (.take 3 0 (.take 4 0 (.take 5 0 (.fork 7 (.take 8 0 .done) .stop)))) .stop) .stop)) (.fork 6 (.fork 0 (.fork 2 (.take 3 0 (.take 4 0 (.take 5 0 (.fork 7 (.take 8 0 .done) .stop)))) .stop) .stop) .stop)) (.fork 6 (.fork 0 (.fork 1 (.fork 2 (.take 3 0 (.take 4 0 (.take 5 0 (.fork 7 (.take 8 0 .done) .stop)))) .stop) .stop) (.fork 1 (.fork 0 (.fork 2 (.take 3 0 (.take 4 0 (.take 5 0 (.fork 7 (.take 8 0 .done) .stop)))) .stop) .stop) .stop)) .stop))) ?tree9 ?rest9
  case tree9 =>
    refine awTree.fA ?_ ?_
    · refine awTree.fC (c_value_Real _ 5) ?_ ?_
      · refine awTree.fC (c_value_Set _ smallO [67] (realO 5) (by decide +kernel)) ?_ ?_
        · refine awTree.tk ?_
          refine awTree.tk ?_
          refine awTree.tk ?_
          refine awTree.fA ?_ ?_
          · refine awTree.fA ?_ ?_
            · refine awTree.tk ?_
              exact awTree.dn
            · exact trivial
          · exact trivial
        · refine awTree.fA ?_ ?_
          · refine awTree.fC (c_value_Set _ smallO [67] (realO 5) (by decide +kernel)) ?_ ?_
            · refine awTree.tk ?_
              refine awTree.tk ?_
              refine awTree.tk ?_
              refine awTree.fA ?_ ?_
              · refine awTree.tk ?_
                exact awTree.dn
              · exact trivial
            · exact trivial
          · exact trivial
      · refine awTree.fA ?_ ?_
        · refine awTree.fC (c_value_Real _ 5) ?_ ?_
          · refine awTree.fC (c_value_Set _ smallO [67] (realO 5) (by decide +kernel)) ?_ ?_
            · refine awTree.tk ?_
              refine awTree.tk ?_
              refine awTree.tk ?_
              refine awTree.fA ?_ ?_
              · refine awTree.tk ?_
                exact awTree.dn
              · exact trivial
            · exact trivial
          · exact trivial
        · exact trivial
    · refine awTree.fC (c_value_Real _ 5) ?_ ?_
      · refine awTree.fA ?_ ?_
        · refine awTree.fC (c_value_Set _ smallO [67] (realO 5) (by decide +kernel)) ?_ ?_
          · refine awTree.tk ?_
            refine awTree.tk ?_
            refine awTree.tk ?_
            refine awTree.fA ?_ ?_
            · refine awTree.fA ?_ ?_
              · refine awTree.tk ?_
                exact awTree.dn
              · exact trivial
            · exact trivial
          · refine awTree.fA ?_ ?_
            · refine awTree.fC (c_value_Set _ smallO [67] (realO 5) (by decide +kernel)) ?_ ?_
              · refine awTree.tk ?_
                refine awTree.tk ?_
                refine awTree.tk ?_
                refine awTree.fA ?_ ?_
                · refine awTree.tk ?_
                  exact awTree.dn
                · exact trivial
              · exact trivial
            · exact trivial
        · refine awTree.fA ?_ ?_
          · refine awTree.fA ?_ ?_
            · refine awTree.fC (c_value_Set _ smallO [67] (realO 5) (by decide +kernel)) ?_ ?_
              · refine awTree.tk ?_
                refine awTree.tk ?_
                refine awTree.tk ?_
                refine awTree.fA ?_ ?_
                · refine awTree.tk ?_
                  exact awTree.dn
                · exact trivial
              · exact trivial
            · exact trivial
          · exact trivial
      · refine awTree.fA ?_ ?_
        · refine awTree.fA ?_ ?_
          · refine awTree.fC (c_value_Real _ 5) ?_ ?_
            · refine awTree.fC (c_value_Set _ smallO [67] (realO 5) (by decide +kernel)) ?_ ?_
              · refine awTree.tk ?_
                refine awTree.tk ?_
                refine awTree.tk ?_
                refine awTree.fA ?_ ?_
                · refine awTree.tk ?_
                  exact awTree.dn
                · exact trivial
              · exact trivial
            · exact trivial
          · refine awTree.fC (c_value_Real _ 5) ?_ ?_
            · refine awTree.fA ?_ ?_
              · refine awTree.fC (c_value_Set _ smallO [67] (realO 5) (by decide +kernel)) ?_ ?_
                · refine awTree.tk ?_
                  refine awTree.tk ?_
                  refine awTree.tk ?_
                  refine awTree.fA ?_ ?_
                  · refine awTree.tk ?_
                    exact awTree.dn
                  · exact trivial
                · exact trivial
              · exact trivial
            · exact trivial
        · exact trivial
  skip
  skip
  skip
  skip
  skip
  skip
  skip
  refine AW.trim [1, 2, 3, 5, 7, 9, 10, 11, 13, 15, 16, 17] ?_
  refine AW.rSC ?_
  refine awOps.cons (awGuard.c1 (c_value_Set _ smallO [67] lqS (by decide +kernel)) ?_)
  refine awOps.rn ?_
  refine AW.trim [1, 2, 3, 5, 7, 9, 10, 11, 13, 15, 16, 17, 19] ?_
  refine AW.rSC ?_
  refine awOps.cons (awGuard.c1 (c_value_Int _ 1) ?_)
  refine awOps.rn ?_
  refine awOps.cons (awGuard.c1 (c_value_Int _ 1) ?_)
  refine awOps.rn ?_
  refine awOps.cons (awGuard.c1 (c_value_Set _ (intO 1) [67] (intO 1) (by decide +kernel)) ?_)
  refine awOps.rn ?_
  refine AW.trim [1, 2, 3, 5, 7, 9, 10, 11, 13, 15, 16, 17, 19, 21] ?_
  refine AW.rSC ?_
  refine awOps.cons (awGuard.c1 (c_value_Get _ lqT [67] (by decide +kernel)) ?_)
  refine awOps.rn ?_
  refine AW.trim [1, 2, 3, 5, 7, 9, 10, 11, 13, 15, 16, 17, 19, 21, 22, 23] ?_
  refine AW.rSC ?_
  refine awOps.cons (awGuard.c1 (c_value_Get _ smallO [67] (by decide +kernel)) ?_)
  refine awOps.rn ?_
  refine AW.trim [1, 2, 3, 5, 7, 9, 10, 11, 13, 15, 16, 17, 19, 21, 22, 23, 25] ?_
  refine AW.rSC ?_
  refine awOps.cons (awGuard.c1 (c_value_Int _ (-3)) ?_)
  refine awOps.rn ?_
  refine awOps.cons (awGuard.c1 (c_value_Number _ (intO (-3)) (by decide +kernel)) ?_)
  refine awOps.rn ?_
  refine AW.trim [1, 2, 3, 5, 7, 9, 10, 11, 13, 15, 16, 17, 19, 21, 22, 23, 25, 26, 27] ?_
  refine AW.rSC ?_
  refine awOps.cons (awGuard.c1 (c_value_Int _ 107375) ?_)
  refine awOps.rn ?_
  refine awOps.cons (awGuard.c1 (c_value_Number _ (intO 107375) (by decide +kernel)) ?_)
  refine awOps.rn ?_
  refine AW.trim [1, 2, 3, 5, 7, 9, 10, 11, 13, 15, 16, 17, 19, 21, 22, 23, 25, 26, 27, 29] ?_
  refine AW.rSC ?_
  refine awOps.cons (awGuard.c1 (c_value_String _ [49]) ?_)
  refine awOps.rn ?_
  refine awOps.cons (awGuard.c1 (c_value_Number _ (strO [49]) (by decide +kernel)) ?_)
  refine awOps.rn ?_
  refine AW.trim [1, 2, 3, 5, 7, 9, 10, 11, 13, 15, 16, 17, 19, 21, 22, 23, 25, 26, 27, 29, 31] ?_
  refine AW.seq ?_
  refine AW.rSC ?_
  refine awOps.cons (awGuard.c1 (c_value_Same _ (dictO lqP) smallO (by decide +kernel)) ?_)
  refine awOps.rn ?_
  refine AW.trim [1, 10, 16, 22, 23, 25, 26, 27, 29, 31, 183] ?_
  refine AW.c2 ?_ ?_
  · intro h106
    exfalso
    simp only [lw1, lw2, lw3, lw4, lw5, lw6, lw7, lw8, lw9, lw10, lw11, lw12, lw13] at h106
    revert h106
    decide
  · intro h106
    refine AW.skip ?_
    refine AW.seq ?_
    refine AW.fS [0, 1, 2, 3, 4, 5, 6, 7, 8, 9, 10, 11, 12, 13, 14, 15, 16, 17, 18, 19, 20, 21, 22, 23, 24, 25, 26, 27, 28, 29, 30, 31, 32, 33, 34, 35, 37, 36, 38, 39, 40, 41, 42, 44, 43, 45, 46, 47, 48, 49, 50, 51, 52] [] ?_
    refine awFun.rn ?_
    refine awFun.cG [213, 214] (fun hg => c_value_Depth _ smallO (by decide +kernel)) ?_
    refine awFun.rn ?_
    refine awFun.cG [218, 219] (fun hg => c_value_Drop _ lqT [67] (by decide +kernel)) ?_
    refine awFun.rn ?_
    refine awFun.cG [218, 220, 221] (fun hg => c_value_Same _ (dropO lqT [67]) smallO (by decide +kernel)) ?_
    refine awFun.rn ?_
    refine awFun.cG [225, 226] (fun hg => c_value_Clone _ smallO (by decide +kernel)) ?_
    refine awFun.rn ?_
    refine awFun.cG [225, 227, 228] (fun hg => c_value_Same _ smallO smallO (by decide +kernel)) ?_
    refine awFun.rn ?_
    refine awFun.cG [232, 233, 234] (fun hg => c_value_Same _ lqT smallO (by decide +kernel)) ?_
    refine awFun.rn ?_
    rw [Aw.awFun_nil, Aw.awPlan_nil]
    refine AW.trim [1, 10, 236] ?_
    refine AW.c2 ?_ ?_
    · intro h127
      exfalso
      simp only [lw14, lw15, lw16, lw17, lw18, lw19, lw20, lw21, lw22, lw23] at h127
      revert h127
      decide
    · intro h127
      refine AW.skip ?_
      refine AW.rSC ?_
      refine awOps.cons (awGuard.c1 (c_value_Swap _ smallO [5] [7] (by decide +kernel) (by decide +kernel) (by decide +kernel)) ?_)
      refine awOps.rn ?_
      refine AW.trim [1, 10, 32] ?_
      refine AW.rSC ?_
      refine awOps.cons (awGuard.c1 (c_value_Refs _ lqR (by decide +kernel)) ?_)
      refine awOps.rn ?_
      refine AW.trim [1, 10, 33] ?_
      rw [lw25, show intsAV [7] = [[.int .i64 7]] from rfl]
      refine AW.rSC ?_
      refine awOps.cons (awGuard.cG (fun hg => c_value_Check _ smallO (by decide +kernel)) ?_)
      refine awOps.rn ?_
      refine awOps.cons (awGuard.gT ?_)
      refine awOps.rn ?_
      refine awOps.cons (awGuard.cG (fun hg => c_value_Check _ (Pob.mk 10 0 0 [] [] []) (by decide +kernel)) ?_)
      refine awOps.rn ?_
      refine awOps.cons (awGuard.cG (fun hg => c_value_Bool _ true) ?_)
      refine awOps.rn ?_
      refine awOps.cons (awGuard.cG (fun hg => c_value_Check _ (boolO true) (by decide +kernel)) ?_)
      refine awOps.rn ?_
      refine awOps.cons (awGuard.gT ?_)
      refine awOps.rn ?_
      refine awOps.cons (awGuard.cG (fun hg => c_value_Check _ (Pob.mk 1 2 0 [] [] []) (by decide +kernel)) ?_)
      refine awOps.rn ?_
      refine awOps.cons (awGuard.gT ?_)
      refine awOps.rn ?_
      refine awOps.cons (awGuard.cG (fun hg => c_value_Check _ (Pob.mk 2 0 0 [120] [] []) (by decide +kernel)) ?_)
      refine awOps.rn ?_
      refine awOps.cons (awGuard.gT (hob := by simp only [go_sem, seval]; decide +kernel) ?_)
      refine awOps.rn ?_
      refine awOps.cons (awGuard.cT (c_lwArr _ (streamO smallO [120, 121, 122]) (objsAV_one _) (by decide +kernel)) ?_)
      refine awOps.rn ?_
      refine awOps.cons (awGuard.cG (fun hg => c_value_Check _ (arrO [streamO smallO [120, 121, 122]]) (by decide +kernel)) ?_)
      refine awOps.rn ?_
      refine awOps.cons (awGuard.cG (fun hg => c_value_Name _ [97, 0]) ?_)
      refine awOps.rn ?_
      refine awOps.cons (awGuard.cG (fun hg => c_value_Check _ (nameO [97, 0]) (by decide +kernel)) ?_)
      refine awOps.rn ?_
      refine awOps.cons (awGuard.cG (fun hg => c_value_Ref _ 0 0 (by decide +kernel)) ?_)
      refine awOps.rn ?_
      refine awOps.cons (awGuard.cG (fun hg => c_value_Check _ (refO 0 0) (by decide +kernel)) ?_)
      refine awOps.rn ?_
      refine awOps.cons (awGuard.gT ?_)
      refine awOps.rn ?_
      refine awOps.cons (awGuard.gT ?_)
      refine awOps.rn ?_
      refine awOps.cons (awGuard.cT (c_value_Check _ (Pob.mk 7 0 0 [] [[65]] []) (by decide +kernel)) ?_)
      refine awOps.rn ?_
      refine AW.trim [0] ?_
      refine AW.rt ?_
      rw [lw26, lw27, lw28, lw29, lw30, lw31, lw32, lw33, lw34]
      rfl
end Go.Proofs

namespace Go.Proofs
open Go Aw
set_option linter.unusedSimpArgs false
set_option linter.unusedVariables false
set_option maxRecDepth 100000
set_option maxHeartbeats 4000000

theorem c_docs_kind (gl : List (Nat × AV)) (o : Pob) (h : o.bulk ≤ 16777216 := by first | omega | exact u8_le _ | assumption | (simp; done) | (simp; omega)) : FnP Try.prog (gl) 149 [.agg o.cells] fun r => r = .ret (.str (docKind o)) := by
  refine FnP.intro Try.func149 rfl rfl (by simp [Try.ntmps149]) ?_
  simp only [argEnv, Try.ntmps149, Try.results149]
  refine AW.rS ?_
  refine AW.rSC ?_
  refine awOps.cons (awGuard.c1 (c_value_Get ..) ?_)
  refine awOps.rn ?_
  refine AW.seq ?_
  refine AW.rS ?_
  refine AW.c2 ?_ ?_
  · intro h7
    refine AW.rS ?_
    refine AW.rt ?_
    simp_all [docKind, typeK]
  · intro h7
    refine AW.skip ?_
    refine AW.rS ?_
    refine AW.rt ?_
    simp_all [docKind, typeK]
theorem c_docs_holds (gl : List (Nat × AV)) (o : Pob) (h : o.bulk ≤ 16777216 := by first | omega | exact u8_le _ | assumption | (simp; done) | (simp; omega)) : FnP Try.prog (gl) 135 [.agg o.cells] fun r => r = .ret (.bool (holdsB o)) := by
  refine FnP.intro Try.func135 rfl rfl (by simp [Try.ntmps135]) ?_
  simp only [argEnv, Try.ntmps135, Try.results135]
  refine AW.rS ?_
  refine AW.rSC ?_
  refine awOps.cons (awGuard.cG (fun hg => c_docs_kind ..) ?_)
  refine awOps.rn ?_
  refine awOps.cons (awGuard.cG (fun hg => c_docs_kind ..) ?_)
  refine awOps.rn ?_
  refine AW.rt ?_
  simp_all [holdsB]
theorem c_docs_content (gl : List (Nat × AV)) (i : Itm) (h : i.obj.bulk ≤ 16777216 := by first | omega | exact u8_le _ | assumption | (simp; done) | (simp; omega)) : FnP Try.prog (gl) 104 [.agg i.cells] fun r => r = .ret (.int .i64 (contentE i)) := by
  refine FnP.intro Try.func104 rfl rfl (by simp [Try.ntmps104]) ?_
  simp only [argEnv, Try.ntmps104, Try.results104]
  refine AW.rS ?_
  refine AW.seq ?_
  refine AW.rSC ?_
  refine awOps.cons (awGuard.c1 (c_value_Check _ i.obj) ?_)
  refine awOps.rn ?_
  refine AW.rS ?_
  refine AW.c2 ?_ ?_
  · intro h7
    refine AW.rS ?_
    refine AW.rt ?_
    · rw [content_bad h7]
    all_goals first | contradiction | rfl | (simp; done) | (simp; omega)
  · intro h7
    refine AW.skip ?_
    refine AW.seq ?_
    refine AW.rSC ?_
    refine awOps.cons (awGuard.cG (fun hg => c_docs_holds _ i.obj) ?_)
    refine awOps.rn ?_
    refine AW.c2 ?_ ?_
    · intro h16
      refine AW.rS ?_
      refine AW.rt ?_
      simp only [contentE]; simp_all
    · intro h16
      refine AW.skip ?_
      refine AW.rS ?_
      refine AW.rt ?_
      simp only [contentE]; simp_all
theorem c_docs_alone (gl : List (Nat × AV)) (i : Itm) (h : i.obj.bulk ≤ 16777216 := by first | omega | exact u8_le _ | assumption | (simp; done) | (simp; omega)) : FnP Try.prog (gl) 59 [.agg i.cells] fun r => r = .ret (.int .i64 (aloneE i)) := by
  refine FnP.intro Try.func59 rfl rfl (by simp [Try.ntmps59]) ?_
  simp only [argEnv, Try.ntmps59, Try.results59]
  refine AW.rS ?_
  refine AW.seq ?_
  refine AW.rSC ?_
  refine awOps.cons (awGuard.c1 (c_docs_numbers _ i) ?_)
  refine awOps.rn ?_
  refine AW.c2 ?_ ?_
  · intro h6
    refine AW.rS ?_
    refine AW.rt ?_
    rw [aloneE, if_pos (nums_no h6)]
  · intro h6
    refine AW.skip ?_
    refine AW.rSC ?_
    refine awOps.cons (awGuard.c1 (c_docs_content _ i) ?_)
    refine awOps.rn ?_
    refine AW.rt ?_
    rw [aloneE, if_neg (by rw [nums_yes h6]; simp)]
theorem c_docs_items (gl : List (Nat × AV)) (l : List Itm) (h : ibulk l ≤ 16777216) : FnP Try.prog (gl) 51 [.sl (itemsAV l)] fun r => r = .ret (.int .i64 (itemsE l)) := by
  refine FnP.intro Try.func51 rfl rfl (by simp [Try.ntmps51]) ?_
  simp only [argEnv, Try.ntmps51, Try.results51]
  have hlen := ibulk_len l
  refine AW.rS ?_
  refine AW.seq ?_
  refine AW.rS ?_
  refine AW.block ?_
  refine AW.lk (S := { k : Nat // k ≤ l.length ∧ itemsE l = itemsFrom l k (l.length - k) }) [0, 6, 7] (fun s_ => [(8, .int .i64 s_.1)]) (fun s_ => []) 0 (fun s_ => l.length - s_.1) ⟨0, Nat.zero_le _, rfl⟩ ?_ ?_
  · refine St.le.vw []
  rintro ⟨k, hk, hs⟩
  try dsimp only at hk
  try dsimp only at hs
  refine AW.rS ?_
  refine AW.seq ?_
  refine AW.c2 ?_ ?_
  · intro h8
    have hgb := ibulk_get (l := l) (i := k) (by omega)
    refine AW.skip ?_
    refine AW.seq ?_
    refine AW.block ?_
    refine AW.rS ?_
    refine AW.seq ?_
    refine AW.block ?_
    refine AW.rSC ?_
    refine awOps.cons (awGuard.c1 (c_docs_numbers _ (l.getD k Itm.zero)) ?_)
    refine awOps.rn ?_
    refine AW.c2 ?_ ?_
    · intro h18
      refine AW.rS ?_
      refine AW.rt ?_
      rw [hs, itemsFrom_step h8, if_pos (nums_no h18)]
    · intro h18
      refine AW.dS [(0, 0), (1, 0), (2, 0), (3, 0), (4, 1), (5, 0), (6, 0), (7, 0), (8, 1), (9, 0), (10, 1), (11, 0), (12, 0), (13, 0)] ?_
      refine AW.c2 ?_ ?_
      · intro h23
        refine AW.rS ?_
        refine AW.rt ?_
        rw [hs, itemsFrom_step h8, if_neg (by rw [nums_yes h18]; simp), if_pos (by omega)]
      · intro h23
        refine AW.skip ?_
        refine AW.rSC ?_
        refine awOps.cons (awGuard.c1 (c_docs_content _ (l.getD k Itm.zero)) ?_)
        refine awOps.rn ?_
        refine AW.rS ?_
        refine AW.c2 ?_ ?_
        · intro h32
          refine AW.rS ?_
          refine AW.rt ?_
          rw [hs, itemsFrom_step h8, if_neg (by rw [nums_yes h18]; simp), if_neg (by omega), if_pos h32]
        · intro h32
          refine AW.skip ?_
          refine AW.rL ?_
          refine ⟨⟨k + 1, by omega, by rw [hs, itemsFrom_step (by omega), if_neg (by rw [nums_yes h18]; simp), if_neg (by omega), if_neg (by simpa using h32)]⟩, ?_, ?_⟩
          · refine St.le.vw []
          · simp only []; omega
  · intro h8
    refine AW.exit ?_
    refine AW.rS ?_
    refine AW.rt ?_
    rw [hs, show l.length - k = 0 from by omega, itemsFrom]
end Go.Proofs

namespace Go.Proofs
open Go Aw
set_option linter.unusedSimpArgs false
set_option linter.unusedVariables false
set_option maxRecDepth 100000
set_option maxHeartbeats 4000000

theorem c_docs_Follow_1 (gl : List (Nat × AV)) (i : Itm) (o : Pob) : FnP Try.prog (gl) 65 [.agg i.cells, .tptr o.cells] fun r => r = .ret (.bool (decide (i.num = o.num))) := by
  refine FnP.intro Try.func65 rfl rfl (by simp [Try.ntmps65]) ?_
  simp only [argEnv, Try.ntmps65, Try.results65]
  refine AW.rS ?_
  refine AW.rS ?_
  refine AW.rt ?_
  all_goals first | contradiction | rfl | (simp; done) | (simp; omega)
theorem c_IndexFunc_Follow (gl : List (Nat × AV)) (l : List Itm) (o : Pob) (hl : l.length ≤ 16777216 := by first | omega | exact u8_le _ | assumption | (simp; done) | (simp; omega)) : FnP Try.prog (gl) 64 [.sl (itemsAV l), .clos 65 [.tptr o.cells]] fun r => r = .ret (.int .i64 (iidxI l o.num)) := by
  refine FnP.intro Try.func64 rfl rfl (by simp [Try.ntmps64]) ?_
  simp only [argEnv, Try.ntmps64, Try.results64]
  refine AW.rS ?_
  refine AW.seq ?_
  refine AW.rS ?_
  refine AW.block ?_
  refine AW.lk (S := { i : Nat // i ≤ l.length ∧ ∀ j, j < i → (l.getD j Itm.zero).num ≠ o.num }) [0, 1, 7] (fun s_ => [(8, .int .i64 s_.1)]) (fun s_ => []) 0 (fun s_ => l.length - s_.1) ⟨0, Nat.zero_le _, fun j h => absurd h (by omega)⟩ ?_ ?_
  · refine St.le.vw []
  rintro ⟨i, hi, hs⟩
  try dsimp only at hi
  try dsimp only at hs
  refine AW.rS ?_
  refine AW.seq ?_
  refine AW.c2 ?_ ?_
  · intro h8
    refine AW.skip ?_
    refine AW.seq ?_
    refine AW.block ?_
    refine AW.rS ?_
    refine AW.rSC ?_
    refine awOps.cons (awGuard.c1 (c_docs_Follow_1 _ (l.getD i Itm.zero) o) ?_)
    refine awOps.rn ?_
    refine AW.c2 ?_ ?_
    · intro h16
      refine AW.rS ?_
      refine AW.rt ?_
      rw [iidx_hit h8 hs h16]
    · intro h16
      refine AW.skip ?_
      refine AW.rL ?_
      refine ⟨⟨i + 1, by omega, fun j hj => (Nat.lt_or_ge j i).elim (hs j) (fun h => (show j = i by omega) ▸ h16)⟩, ?_, ?_⟩
      · refine St.le.vw []
      · simp only []; omega
  · intro h8
    refine AW.exit ?_
    refine AW.rS ?_
    refine AW.rt ?_
    rw [iidx_miss (fun j hj => hs j (by omega))]
theorem c_docs_Follow (gl : List (Nat × AV)) (d : Dc) (o : Pob) (h : d.bulk ≤ 16777216 := by first | omega | exact u8_le _ | assumption | (simp; done) | (simp; omega)) (ho : o.bulk ≤ 16777216 := by first | omega | exact u8_le _ | assumption | (simp; done) | (simp; omega)) : FnP Try.prog (gl) 20 [.agg d.cells, .agg o.cells] fun r => r = .ret (.agg (followO d o).cells) := by
  refine FnP.intro Try.func20 rfl rfl (by simp [Try.ntmps20]) ?_
  simp only [argEnv, Try.ntmps20, Try.results20]
  have hlen := ibulk_len d.items
  have hlt := iidxI_lt (l := d.items) (n := o.num)
  simp only [Dc.bulk] at h
  refine AW.rS ?_
  refine AW.seq ?_
  refine AW.rS ?_
  refine AW.c2 ?_ ?_
  · intro h4
    refine AW.rSC ?_
    refine awOps.cons (awGuard.c1 (c_value_Clone _ o ho) ?_)
    refine awOps.rn ?_
    refine AW.rt ?_
    rw [followO, if_pos h4]
  · intro h4
    refine AW.skip ?_
    refine AW.rSC ?_
    refine awOps.cons (awGuard.c1 (c_IndexFunc_Follow _ d.items o (by omega)) ?_)
    refine awOps.rn ?_
    refine AW.seq ?_
    by_cases hs15 : 0 ≤ iidxI d.items o.num
    · skip
      refine AW.dS [(0, 0), (1, 0), (2, 0), (3, 0), (4, 1), (5, 0), (6, 1), (7, 0), (8, 1), (9, 0), (10, 1), (11, 0), (12, 0)] ?_
      refine AW.c2 ?_ ?_
      · intro h16
        refine AW.rS ?_
        refine AW.rt ?_
        have hf : followO d o = Pob.null := by simp only [followO]; grind
        rw [hf]; rfl
      · intro h16
        refine AW.skip ?_
        refine AW.rSC ?_
        refine awOps.cons (awGuard.c1 (c_value_Clone _ (d.items.getD (iidxI d.items o.num).toNat Itm.zero).obj (by have := ibulk_get (l := d.items) (i := (iidxI d.items o.num).toNat) (by omega); omega)) ?_)
        refine awOps.rn ?_
        refine AW.rt ?_
        have hf : followO d o = (d.items.getD (iidxI d.items o.num).toNat Itm.zero).obj := by simp only [followO]; grind
        rw [hf]
    · skip
      by_cases hs15 : 0 < d.items.length
      · skip
        refine AW.dS [(0, 0), (1, 0), (2, 0), (3, 0), (4, 1), (5, 0), (6, 1), (7, 0), (8, 1), (9, 0), (10, 1), (11, 0), (12, 0)] ?_
        refine AW.c2 ?_ ?_
        · intro h16
          refine AW.rS ?_
          refine AW.rt ?_
          have hf : followO d o = Pob.null := by simp only [followO]; grind
          rw [hf]; rfl
        · intro h16
          exfalso; first | omega | (simp at h16; omega)
      · skip
        refine AW.dS [(0, 0), (1, 0), (2, 0), (3, 0), (4, 1), (5, 0), (6, 1), (7, 0), (8, 1), (9, 0), (10, 1), (11, 0), (12, 0)] ?_
        refine AW.c2 ?_ ?_
        · intro h16
          refine AW.rS ?_
          refine AW.rt ?_
          have hf : followO d o = Pob.null := by simp only [followO]; grind
          rw [hf]; rfl
        · intro h16
          exfalso; first | omega | (simp at h16; omega)
end Go.Proofs

namespace Go.Proofs
open Go Aw
set_option linter.unusedSimpArgs false
set_option linter.unusedVariables false
set_option maxRecDepth 100000
set_option maxHeartbeats 4000000

theorem c_cmp_isNaN_int (gl : List (Nat × AV)) (n : Int) : FnP Try.prog (gl) 136 [.int .i64 n] fun r => r = .ret (.bool false) := by
  refine FnP.intro Try.func136 rfl rfl (by simp [Try.ntmps136]) ?_
  simp only [argEnv, Try.ntmps136, Try.results136]
  refine AW.rS ?_
  refine AW.rS ?_
  refine AW.rt ?_
  all_goals first | contradiction | rfl | (simp; done) | (simp; omega)
theorem c_cmp_Compare_int (gl : List (Nat × AV)) (x y : Int) : FnP Try.prog (gl) 106 [.int .i64 x, .int .i64 y] fun r => r = .ret (.int .i64 (cmpI x y)) := by
  refine FnP.intro Try.func106 rfl rfl (by simp [Try.ntmps106]) ?_
  simp only [argEnv, Try.ntmps106, Try.results106]
  refine AW.rS ?_
  refine AW.rSC ?_
  refine awOps.cons (awGuard.c1 (c_cmp_isNaN_int _ x) ?_)
  refine awOps.rn ?_
  refine AW.rSC ?_
  refine awOps.cons (awGuard.c1 (c_cmp_isNaN_int _ y) ?_)
  refine awOps.rn ?_
  refine AW.seq ?_
  refine AW.rS ?_
  refine AW.c2 ?_ ?_
  · intro h10
    refine AW.seq ?_
    refine AW.rS ?_
    refine AW.c2 ?_ ?_
    · intro h13
      refine AW.rS ?_
      refine AW.rt ?_
      all_goals first | contradiction | rfl | (simp; done) | (simp; omega)
    · intro h13
      refine AW.skip ?_
      refine AW.rS ?_
      refine AW.rt ?_
      all_goals first | contradiction | rfl | (simp; done) | (simp; omega)
  · intro h10
    refine AW.skip ?_
    refine AW.seq ?_
    refine AW.rS ?_
    refine AW.c2 ?_ ?_
    · intro h24
      refine AW.rS ?_
      refine AW.rt ?_
      all_goals first | contradiction | rfl | (simp; done) | (simp; omega)
    · intro h24
      refine AW.skip ?_
      refine AW.seq ?_
      refine AW.rS ?_
      refine AW.c2 ?_ ?_
      · intro h31
        refine AW.rS ?_
        refine AW.rt ?_
        rw [cmpI, if_pos h31]
      · intro h31
        refine AW.skip ?_
        refine AW.seq ?_
        refine AW.rS ?_
        refine AW.c2 ?_ ?_
        · intro h38
          refine AW.rS ?_
          refine AW.rt ?_
          rw [cmpI, if_neg (by omega), if_pos h38]
        · intro h38
          refine AW.skip ?_
          refine AW.rS ?_
          refine AW.rt ?_
          rw [cmpI, if_neg (by omega), if_neg (by omega)]
theorem c_docs_byNum (gl : List (Nat × AV)) (i : Itm) (n : Int) : FnP Try.prog (gl) 54 [.agg i.cells, .int .i64 n] fun r => r = .ret (.int .i64 (cmpI i.num n)) := by
  refine FnP.intro Try.func54 rfl rfl (by simp [Try.ntmps54]) ?_
  simp only [argEnv, Try.ntmps54, Try.results54]
  refine AW.rS ?_
  refine AW.rSC ?_
  refine awOps.cons (awGuard.c1 (c_cmp_Compare_int _ i.num n) ?_)
  refine awOps.rn ?_
  refine AW.rt ?_
  all_goals first | contradiction | rfl | (simp; done) | (simp; omega)
theorem cmpI_neg {x y : Int} : (cmpI x y < 0) = (x < y) := by
  unfold cmpI
  by_cases h : x < y
  · simp [h]
  · by_cases h' : y < x <;> simp [h, h']
theorem cmpI_zero {x y : Int} : (cmpI x y = 0) = (x = y) := by
  unfold cmpI
  by_cases h : x < y
  · simp [h]; omega
  · by_cases h' : y < x
    · simp [h, h']; omega
    · simp [h, h']; omega
theorem c_BinSearch_Item (gl : List (Nat × AV)) (l : List Itm) (n : Int) (hl : l.length ≤ 16777216 := by first | omega | exact u8_le _ | assumption | (simp; done) | (simp; omega)) (hs : incrN l := by first | omega | exact u8_le _ | assumption | (simp; done) | (simp; omega)) : FnP Try.prog (gl) 53 [.sl (itemsAV l), .int .i64 n, .clos 54 []] fun r => r = .ret (.tup [.int .i64 (iplace l n), .bool (ithere l n)]) := by
  refine FnP.intro Try.func53 rfl rfl (by simp [Try.ntmps53]) ?_
  simp only [argEnv, Try.ntmps53, Try.results53]
  refine AW.rS ?_
  refine AW.rS ?_
  refine AW.rS ?_
  refine AW.seq ?_
  refine AW.block ?_
  refine AW.lk (S := { p : Nat × Nat // p.1 ≤ p.2 ∧ p.2 ≤ l.length ∧ (∀ a, a < p.1 → (l.getD a Itm.zero).num < n) ∧ (∀ a, p.2 ≤ a → a < l.length → n ≤ (l.getD a Itm.zero).num) }) [0, 1, 2, 8] (fun s_ => [(9, .int .i64 s_.1.1), (10, .int .i64 s_.1.2)]) (fun s_ => []) 0 (fun s_ => s_.1.2 - s_.1.1) ⟨(0, l.length), Nat.zero_le _, Nat.le_refl _, fun a h => absurd h (by omega), fun a h h' => absurd h' (by omega)⟩ ?_ ?_
  · refine St.le.vw []
  rintro ⟨⟨i, j⟩, h1, h2, h3, h4⟩
  try dsimp only at h1
  try dsimp only at h2
  try dsimp only at h3
  try dsimp only at h4
  refine AW.seq ?_
  refine AW.rS ?_
  refine AW.c2 ?_ ?_
  · intro h9
    refine AW.skip ?_
    refine AW.block ?_
    refine AW.rS ?_
    refine AW.rSC ?_
    refine awOps.cons (awGuard.c1 (c_docs_byNum _ (l.getD ((i + j) / 2) Itm.zero) n) ?_)
    refine awOps.rn ?_
    refine AW.c2 ?_ ?_
    · intro h16
      rw [cmpI_neg] at h16
      refine AW.rL ?_
      refine ⟨⟨((i + j) / 2 + 1, j), by dsimp only; omega, h2, fun a ha => ibs_lo hs h16 (by omega) (by dsimp only at ha; omega), h4⟩, ?_, ?_⟩
      · refine St.le.vw []
      · simp only []; omega
    · intro h16
      have h16' : n ≤ (l.getD ((i + j) / 2) Itm.zero).num := by have := @cmpI_neg (l.getD ((i + j) / 2) Itm.zero).num n; by_cases hh : (l.getD ((i + j) / 2) Itm.zero).num < n; rw [← this] at hh; omega; omega
      refine AW.rL ?_
      refine ⟨⟨(i, (i + j) / 2), by dsimp only; omega, by dsimp only; omega, h3, fun a ha hb => ibs_hi hs h16' (by dsimp only at ha; omega) hb⟩, ?_, ?_⟩
      · refine St.le.vw []
      · simp only []; omega
  · intro h9
    refine AW.exit ?_
    obtain rfl : i = j := by omega
    have hkp := iplace_eq h2 h3 (fun h => h4 _ (Nat.le_refl _) h)
    by_cases hs22 : i < l.length
    · skip
      refine AW.rSC ?_
      refine awOps.cons (awGuard.cG (fun hg => c_docs_byNum _ (l.getD i Itm.zero) n) ?_)
      refine awOps.rn ?_
      refine AW.rt ?_
      rw [ithere_eq hkp, hkp]
      simp [hs22, cmpI_zero]
    · skip
      refine AW.rSC ?_
      refine awOps.cons (awGuard.gF (.int .i64 0) ?_ ?_)
      · simp [hs22]
      refine awOps.rn ?_
      refine AW.rt ?_
      rw [ithere_eq hkp, hkp]
      simp [hs22, cmpI_zero]
theorem h_BinSearch_Item (gl : List (Nat × AV)) (l : List Itm) (q : Int) (hl : l.length ≤ 16777216 := by first | omega | exact u8_le _ | assumption | (simp; done) | (simp; omega)) (hs : incrN l := by first | omega | exact u8_le _ | assumption | (simp; done) | (simp; omega)) : FnH Try.prog (gl) 53 [.row 0 0 l.length, .int .i64 q, .clos 54 []] ([(0, .row 8 (itemsAV l) true)]) 1 (fun r h n => r = .ret (.tup [.int .i64 (iplace l q), .bool (ithere l q)]) ∧ h = [(0, .row 8 (itemsAV l) true)] ∧ n = 1) := by
  refine FnH.intro Try.func53 rfl rfl (by simp [Try.ntmps53]) ?_
  simp only [argEnv, Try.ntmps53, Try.results53]
  refine AW.rS ?_
  refine AW.rS ?_
  refine AW.rS ?_
  refine AW.seq ?_
  refine AW.block ?_
  refine AW.lk (S := { p : Nat × Nat // p.1 ≤ p.2 ∧ p.2 ≤ l.length ∧ (∀ a, a < p.1 → (l.getD a Itm.zero).num < q) ∧ (∀ a, p.2 ≤ a → a < l.length → q ≤ (l.getD a Itm.zero).num) }) [0, 1, 2, 8] (fun s_ => [(9, .int .i64 s_.1.1), (10, .int .i64 s_.1.2)]) (fun s_ => [(0, .row 8 (itemsAV l) true)]) 1 (fun s_ => s_.1.2 - s_.1.1) ⟨(0, l.length), Nat.zero_le _, Nat.le_refl _, fun a h => absurd h (by omega), fun a h h' => absurd h' (by omega)⟩ ?_ ?_
  · refine St.le.vw [0]
  rintro ⟨⟨i, j⟩, h1, h2, h3, h4⟩
  try dsimp only at h1
  try dsimp only at h2
  try dsimp only at h3
  try dsimp only at h4
  refine AW.seq ?_
  refine AW.rS ?_
  refine AW.c2 ?_ ?_
  · intro h9
    refine AW.skip ?_
    refine AW.block ?_
    refine AW.rS ?_
    refine AW.rSC ?_
    refine awOps.cons (awGuard.c1 (c_docs_byNum _ (l.getD ((i + j) / 2) Itm.zero) q) ?_)
    refine awOps.rn ?_
    refine AW.c2 ?_ ?_
    · intro h16
      rw [cmpI_neg] at h16
      refine AW.rL ?_
      refine ⟨⟨((i + j) / 2 + 1, j), by dsimp only; omega, h2, fun a ha => ibs_lo hs h16 (by omega) (by dsimp only at ha; omega), h4⟩, ?_, ?_⟩
      · refine St.le.vw [0]
      · simp only []; omega
    · intro h16
      have h16' : q ≤ (l.getD ((i + j) / 2) Itm.zero).num := by have := @cmpI_neg (l.getD ((i + j) / 2) Itm.zero).num q; by_cases hh : (l.getD ((i + j) / 2) Itm.zero).num < q; rw [← this] at hh; omega; omega
      refine AW.rL ?_
      refine ⟨⟨(i, (i + j) / 2), by dsimp only; omega, by dsimp only; omega, h3, fun a ha hb => ibs_hi hs h16' (by dsimp only at ha; omega) hb⟩, ?_, ?_⟩
      · refine St.le.vw [0]
      · simp only []; omega
  · intro h9
    refine AW.exit ?_
    obtain rfl : i = j := by omega
    have hkp := iplace_eq h2 h3 (fun h => h4 _ (Nat.le_refl _) h)
    by_cases hs22 : i < l.length
    · skip
      refine AW.rSC ?_
      refine awOps.cons (awGuard.cG (fun hg => c_docs_byNum _ (l.getD i Itm.zero) q) ?_)
      refine awOps.rn ?_
      refine AW.rt ?_
      rw [ithere_eq hkp, hkp]
      simp [hs22, cmpI_zero]
    · skip
      refine AW.rSC ?_
      refine awOps.cons (awGuard.gF (.int .i64 0) ?_ ?_)
      · simp [hs22]
      refine awOps.rn ?_
      refine AW.rt ?_
      rw [ithere_eq hkp, hkp]
      simp [hs22, cmpI_zero]
end Go.Proofs
