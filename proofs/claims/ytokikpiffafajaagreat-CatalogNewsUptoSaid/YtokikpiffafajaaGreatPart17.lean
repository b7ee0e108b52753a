/- A part of the proof of a law of the seat: no condition of its own. -/
import Derived.Test.YtokikpiffafajaaGreatPart16
set_option linter.unusedVariables false
set_option linter.unusedSimpArgs false
namespace Aw
open Go
def pageL : Pob := .mk 7 0 0 [] [nwMediaK, nwParentK, nwTypeK] [boxO, treeR, nameO nwPageK]
def rootL : Pob := .mk 7 0 0 [] [nwPagesK, nwTypeK] [treeR, nameO nwCatalogK]
def treeL (m : Nat) : Pob := .mk 7 0 0 [] [nwCountK, nwKidsK, nwTypeK] [intO m, arrO (kidsN m), nameO nwPagesK]
def trailL : Pob := .mk 7 0 0 [] [rootK] [refO 1 0]
theorem pageO_eq : pageO = pageL := by decide +kernel
theorem rootN_eq : rootN = rootL := by decide +kernel
theorem trailN_eq : trailN = trailL := by decide +kernel
def tree1 (m : Nat) : Pob := dict0.withK nwCountK (intO m)
def tree2 (m : Nat) : Pob := (tree1 m).withK nwKidsK (arrO (kidsN m))
def tree3 (m : Nat) : Pob := (tree2 m).withK nwTypeK (nameO nwPagesK)
theorem tree1_eq (m : Nat) : tree1 m = .mk 7 0 0 [] [nwCountK] [intO m] := by
  have h1 : kthere dict0.keys nwCountK = false := by decide +kernel
  have h2 : kplace dict0.keys nwCountK = 0 := by decide +kernel
  rw [tree1, withK_new h1, h2]; rfl
theorem tree2_eq (m : Nat) : tree2 m = .mk 7 0 0 [] [nwCountK, nwKidsK] [intO m, arrO (kidsN m)] := by
  have h1 : kthere [nwCountK] nwKidsK = false := by decide +kernel
  have h2 : kplace [nwCountK] nwKidsK = 1 := by decide +kernel
  rw [tree2, tree1_eq, withK_new (by exact h1)]
  simp only [Pob.keys, Pob.kids, Pob.kind, Pob.num, Pob.gen, Pob.str]
  rw [h2]; rfl
theorem tree3_eq (m : Nat) : tree3 m = treeL m := by
  have h1 : kthere [nwCountK, nwKidsK] nwTypeK = false := by decide +kernel
  have h2 : kplace [nwCountK, nwKidsK] nwTypeK = 2 := by decide +kernel
  rw [tree3, tree2_eq, withK_new (by exact h1)]
  simp only [Pob.keys, Pob.kids, Pob.kind, Pob.num, Pob.gen, Pob.str]
  rw [h2]; rfl
theorem ref_chk {n : Int} (h1 : 1 ≤ n) (h2 : n ≤ 8191) : chk (refO n 0) 3 = 0 := by
  refine chk_iff.2 ⟨ownE_iff.2 ⟨by decide, ?_, ?_, ?_, ?_, ?_⟩, ?_⟩
  · simp [useB, refO, uOk, uN, uG, uS, uKeys, uKids, Pob.kind, Pob.num, Pob.gen, Pob.str, Pob.keys, Pob.kids]
  · have e1 : decide (1 ≤ n) = true := decide_eq_true h1
    have e2 : decide (n ≤ 8191) = true := decide_eq_true h2
    simp [fitsB, refO, Pob.kind, Pob.num, Pob.gen]
    exact ⟨e1, e2⟩
  · simp [shortB, refO, Pob.kind, Pob.str]
  · simp [refO, Pob.kids]
  · simp [formB, refO, uKeys, Pob.kind]
  · intro x hx; simp [refO, Pob.kids] at hx
theorem kids_chk {m : Nat} (hm : m ≤ 2048) : chk (arrO (kidsN m)) 2 = 0 := by
  have hl := kidsN_length m
  refine chk_iff.2 ⟨ownE_iff.2 ⟨by decide, ?_, ?_, ?_, ?_, ?_⟩, ?_⟩
  · simp [useB, arrO, uOk, uN, uG, uS, uKeys, uKids, Pob.kind, Pob.num, Pob.gen, Pob.str, Pob.keys, Pob.kids]
  · simp [fitsB, arrO, Pob.kind]
  · simp [shortB, arrO, Pob.kind, Pob.str]
  · show ((kidsN m).length : Int) ≤ 8191; omega
  · simp [formB, arrO, uKeys, Pob.kind]
  · intro x hx
    have hx : x ∈ kidsN m := hx
    simp only [kidsN, List.mem_map, List.mem_range] at hx
    obtain ⟨i, hi, rfl⟩ := hx
    exact ref_chk (by omega) (by omega)
theorem int_chk {m : Nat} (hm : m ≤ 2048) : chk (intO m) 2 = 0 := by
  refine chk_iff.2 ⟨ownE_iff.2 ⟨by decide, ?_, ?_, ?_, ?_, ?_⟩, ?_⟩
  · simp [useB, intO, uOk, uN, uG, uS, uKeys, uKids, Pob.kind, Pob.num, Pob.gen, Pob.str, Pob.keys, Pob.kids]
  · simp [fitsB, intO, Pob.kind, Pob.num, Pob.gen]
    exact decide_eq_true (by omega)
  · simp [shortB, intO, Pob.kind, Pob.str]
  · simp [intO, Pob.kids]
  · simp [formB, intO, uKeys, Pob.kind]
  · intro x hx; simp [intO, Pob.kids] at hx
theorem tree_chk {m : Nat} (hm : m ≤ 2048) : chk (tree3 m) 1 = 0 := by
  have k0 : dict0.kvOk := kvOk_of_chk dict0_ok rfl
  have k1 : (tree1 m).kvOk := withK_kvOk k0 _ _
  have k2 : (tree2 m).kvOk := withK_kvOk k1 _ _
  have k3 : (tree3 m).kvOk := withK_kvOk k2 _ _
  have hk : keyedB (tree3 m).kind = true := by rw [tree3_eq]; rfl
  rw [chk_keyed hk]
  refine ⟨?_, k3, fun k v hv => ?_⟩
  · rw [tree3_eq]
    simp [treeL, Pob.kind, Pob.num, Pob.gen, Pob.str, Pob.kids]
  have hkind : ¬ (tree3 m).kind = 9 := by rw [tree3_eq]; simp [treeL, Pob.kind]
  rcases (has_withK k2).1 hv with ⟨rfl, rfl⟩ | ⟨_, hv⟩
  · exact ⟨by decide +kernel, fun h => hkind h.1, by decide, by decide +kernel⟩
  rcases (has_withK k1).1 hv with ⟨rfl, rfl⟩ | ⟨_, hv⟩
  · exact ⟨by decide +kernel, fun h => hkind h.1, by simp [arrO, Pob.kind], kids_chk hm⟩
  rcases (has_withK k0).1 hv with ⟨rfl, rfl⟩ | ⟨_, i, hi, _⟩
  · exact ⟨by decide +kernel, fun h => hkind h.1, by simp [intO, Pob.kind], int_chk hm⟩
  · exact absurd hi (by simp [dict0, Pob.keys])
theorem treeN_eq {m : Nat} (hm : m ≤ 2048) : treeN m = treeL m := by
  have ha : dictArg (pairL (treeP m)) = true := by
    simp only [dictArg, Bool.and_eq_true, decide_eq_true_eq]
    refine ⟨by simp [pairL, treeP], ?_⟩
    intro i hi h2
    have hi : i < 6 := hi
    have : i = 0 ∨ i = 2 ∨ i = 4 := by omega
    rcases this with rfl | rfl | rfl <;> rfl
  have m1 : nwKidsK ∉ setAdd [] nwCountK := by decide +kernel
  have m2 : nwTypeK ∉ setAdd (setAdd [] nwCountK) nwKidsK := by decide +kernel
  have hl : dictL (pairL (treeP m)) [] dict0 = some (tree3 m) := by
    show dictL [nameO nwCountK, intO m, nameO nwKidsK, arrO (kidsN m), nameO nwTypeK, nameO nwPagesK] [] dict0 = _
    rw [dictL, if_neg (by simp), if_pos (by simp [intO, Pob.kind]), dictL, if_neg (by exact m1), if_pos (by simp [arrO, Pob.kind]), dictL, if_neg (by exact m2), if_pos (by simp [nameO, Pob.kind]), dictL]
    · rfl
    · simp
  show dictO (pairL (treeP m)) = _
  rw [(dict_some ha hl).2, if_pos (tree_chk hm), tree3_eq]
theorem new_doc {n : Int} (h0 : 0 ≤ n) (h1 : n ≤ 2048) : docE (newD n) = 0 := by
  obtain ⟨m, rfl⟩ : ∃ m : Nat, n = m := ⟨n.toNat, by omega⟩
  have hm : m ≤ 2048 := by omega
  have hd : newD (m : Int) = ⟨⟨1, 0, rootN⟩ :: ⟨2, 0, treeN m⟩ :: pagesI m, trailN⟩ := by
    rw [newD, if_neg (by omega), Int.toNat_natCast]
  have hp : ∀ x ∈ pagesI m, ∃ i, i < m ∧ x = ⟨3 + (i : Int), 0, pageO⟩ := by
    intro x hx
    simp only [pagesI, List.mem_map, List.mem_range] at hx
    obtain ⟨i, hi, rfl⟩ := hx
    exact ⟨i, hi, rfl⟩
  have hi : itemsE (newD (m : Int)).items = 0 := by
    rw [hd]
    refine items_iff.2 ⟨incrN_iff.2 ?_, ?_⟩
    · rw [List.pairwise_cons, List.pairwise_cons]
      refine ⟨fun x hx => ?_, fun x hx => ?_, ?_⟩
      · rcases List.mem_cons.1 hx with rfl | hx
        · show (1 : Int) < 2; decide
        · obtain ⟨i, _, rfl⟩ := hp x hx
          show (1 : Int) < 3 + (i : Int); omega
      · obtain ⟨i, _, rfl⟩ := hp x hx
        show (2 : Int) < 3 + (i : Int); omega
      · unfold pagesI
        rw [List.pairwise_map]
        refine List.Pairwise.imp ?_ (List.pairwise_lt_range (n := m))
        intro a b hab
        show 3 + (a : Int) < 3 + (b : Int); omega
    · intro x hx
      rcases List.mem_cons.1 hx with rfl | hx
      · exact ⟨by decide +kernel, by decide +kernel⟩
      rcases List.mem_cons.1 hx with rfl | hx
      · refine ⟨rfl, ?_⟩
        have hc : chk (treeN m) 1 = 0 := by rw [treeN_eq hm, ← tree3_eq]; exact tree_chk hm
        have hk : (treeN m).kind = 7 := by rw [treeN_eq hm]; rfl
        unfold contentE
        dsimp only
        rw [if_neg (by simp [hc]), if_neg]
        rintro (e | e)
        · omega
        · simp [holdsB, hk] at e
      · obtain ⟨i, hi, rfl⟩ := hp x hx
        refine ⟨?_, ?_⟩
        · simp [numsB]; omega
        · rw [content_obj _ _ 1 0]; decide +kernel
  have g1 : chk trailN 1 = 0 := by decide +kernel
  have g2 : trailN.kind = 7 := by decide +kernel
  have g3 : trailOk trailN.keys := by decide +kernel
  have g4 : getO trailN rootK = refO 1 0 := by decide +kernel
  have g5 : rootN.kind = 7 := by decide +kernel
  refine (doc_trail hi).trans ?_
  rw [hd]
  refine (trail_root (d := ⟨⟨1, 0, rootN⟩ :: ⟨2, 0, treeN m⟩ :: pagesI m, trailN⟩) g1 g2 g3).trans ?_
  dsimp only
  rw [g4, if_neg]
  have hlk : lookI (⟨1, 0, rootN⟩ :: ⟨2, 0, treeN m⟩ :: pagesI m) 1 = some ⟨1, 0, rootN⟩ := by
    have hx : iidxI (⟨1, 0, rootN⟩ :: ⟨2, 0, treeN m⟩ :: pagesI m) 1 = (0 : Nat) := iidx_hit (by simp) (fun j hj => absurd hj (by omega)) rfl
    rw [look_hit (by rw [hx]; decide), hx]; rfl
  rintro (e | e)
  · exact e rfl
  · apply e
    rw [follow_look, if_neg (by simp [refO, Pob.kind])]
    show (match lookI (⟨1, 0, rootN⟩ :: ⟨2, 0, treeN m⟩ :: pagesI m) 1 with | none => Pob.null | some x => if x.gen ≠ (refO 1 0).gen then Pob.null else x.obj).kind = 7
    rw [hlk]
    exact g5

theorem pageO_tot : pageO.tot ≤ 300 := by decide +kernel
theorem rootN_tot : rootN.tot ≤ 300 := by decide +kernel
theorem trailN_tot : trailN.tot ≤ 300 := by decide +kernel
theorem kidsN_tots (m : Nat) : tots (kidsN m) = 7 * m := by
  induction m with
  | zero => rfl
  | succ m ih => rw [kidsN_succ, tots_append, ih]; simp only [tots, refO_tot]; omega
theorem pagesI_tots (m : Nat) : itots (pagesI m) ≤ 303 * m := by
  induction m with
  | zero => simp [pagesI, itots]
  | succ m ih =>
    have := pageO_tot
    rw [pagesI_succ, itots_append]
    simp only [itots, List.map_cons, List.map_nil, List.sum_cons, List.sum_nil, Itm.tot] at ih ⊢
    omega
theorem treeL_tot (m : Nat) : (treeL m).tot ≤ 7 * m + 300 := by
  have h1 : (intO m).tot = 7 := by rw [Pob.tot_eq]; simp [intO, Pob.str, Pob.keys, Pob.kids, tots]
  have h2 : (arrO (kidsN m)).tot = 7 * m + 7 := by rw [Pob.tot_eq]; simp [arrO, Pob.str, Pob.keys, Pob.kids, kidsN_tots]
  have h3 : (nameO nwPagesK).tot ≤ 100 := by decide +kernel
  have h4 : ([nwCountK, nwKidsK, nwTypeK].map fun k : List UInt8 => k.length + 1).sum ≤ 100 := by decide +kernel
  rw [Pob.tot_eq]
  simp only [treeL, Pob.str, Pob.keys, Pob.kids, tots, h1, h2, List.length_nil]
  omega
theorem newD_tot {n : Int} (h : n ≤ 300) : (newD n).tot ≤ 200000 := by
  unfold newD
  split
  · rw [zero_tot]; omega
  · obtain ⟨m, rfl⟩ : ∃ m : Nat, n = m := ⟨n.toNat, by omega⟩
    have h1 := rootN_tot
    have h2 := trailN_tot
    have h3 := pagesI_tots m
    have h4 := treeL_tot m
    rw [← treeN_eq (by omega)] at h4
    rw [Int.toNat_natCast]
    simp only [Dc.tot, itots, List.map_cons, List.sum_cons, Itm.tot] at h3 ⊢
    omega
theorem newD_bulk {n : Int} (h : n ≤ 300) : (newD n).bulk ≤ 200000 := Nat.le_trans (Dc.bulk_tot _) (newD_tot h)
end Aw

namespace Go.Proofs
open Go Aw
set_option linter.unusedSimpArgs false
set_option linter.unusedVariables false
set_option maxRecDepth 100000
set_option maxHeartbeats 2000000
/-- some rows are never written again -/
theorem AW.fz {P : Program} {σ : St} {c : Code} {Q : AX → St → Prop} (l : List Nat) {hp' : List (Nat × ABlk)} (k : AW P c ⟨σ.n, σ.env, hp', σ.nx, σ.gl, σ.np, σ.df⟩ Q) (hh : frzs σ.hp l = hp') : AW P c σ Q := by
  subst hh
  refine AW.pre (σ' := ⟨σ.n, σ.env, frzs σ.hp l, σ.nx, σ.gl, σ.np, σ.df⟩) (fun m a hS => ?_) k
  obtain ⟨m', h1, h2, h3, h4, h5⟩ := frzs_sound l hS.h
  refine ⟨m', h1, h3, h5, hS.n, hS.defers.mono h4, ?_, fun g z hg => Rep.mono h4 1 _ _ (hS.gl g z hg), by have := h3.np; rw [this]; exact hS.np⟩
  intro u z hz
  obtain ⟨g1, g2⟩ := hS.env u z hz
  exact ⟨g1, Rep.mono h4 0 _ _ g2⟩
def kaBox : Pob := arrO [intO 0, intO 0, intO 612, intO 792]
theorem c_foliantref34_New (gl : List (Nat × AV)) (n : Int) : FnP Tryz.prog (gl) 9 [.int .i64 n] fun r => r = .ret (.tup [.agg (newD n).cells, .int .i64 (newE n)]) := by
  refine FnP.intro Tryz.func9 rfl rfl (by simp [Tryz.ntmps9]) ?_
  simp only [argEnv, Tryz.ntmps9, Tryz.results9]
  refine AW.rS ?_
  refine AW.seq ?_
  refine AW.rS ?_
  refine AW.c2 ?_ ?_
  · intro h4
    refine AW.rS ?_
    refine AW.rt ?_
    rw [newD, newE, if_pos (by omega), if_pos (by omega)]; rfl
  · intro h4
    refine AW.skip ?_
    refine AW.rSC ?_
    refine awOps.cons (awGuard.c1 (c_foliantref05_Int _ 0) ?_)
    refine awOps.rn ?_
    refine awOps.cons (awGuard.c1 (c_foliantref05_Int _ 0) ?_)
    refine awOps.rn ?_
    refine awOps.cons (awGuard.c1 (c_foliantref05_Int _ 612) ?_)
    refine awOps.rn ?_
    refine awOps.cons (awGuard.c1 (c_foliantref05_Int _ 792) ?_)
    refine awOps.rn ?_
    refine awOps.cons (awGuard.c1 (c_foliantref05_Array _ [intO 0, intO 0, intO 612, intO 792]) ?_)
    refine awOps.rn ?_
    refine AW.rS ?_
    refine AW.rS ?_
    refine AW.seq ?_
    refine AW.rS ?_
    refine AW.block ?_
    refine AW.pre (St.le.nilrow 6 8 (by (simp only [go_sem, seval]; try (simp (disch := omega) only [zqa, zqb, zqc, zqd, zqe, zqf, zqg, zqh, zqi, zqj, zqk, zql, zqm, zqn, zqo, zqp, zqq, zqr, zqs]; try (simp only [go_sem, seval]; try (simp (disch := omega) only [zqa, zqb, zqc, zqd, zqe, zqf, zqg, zqh, zqi, zqj, zqk, zql, zqm, zqn, zqo, zqp, zqq, zqr, zqs]; try simp only [go_sem, seval])))))) ?_
    refine wk ?_
    refine AW.pre (St.le.nilcell 3 5 6 (by (simp only [go_sem, seval]; try (simp (disch := omega) only [zqa, zqb, zqc, zqd, zqe, zqf, zqg, zqh, zqi, zqj, zqk, zql, zqm, zqn, zqo, zqp, zqq, zqr, zqs]; try (simp only [go_sem, seval]; try (simp (disch := omega) only [zqa, zqb, zqc, zqd, zqe, zqf, zqg, zqh, zqi, zqj, zqk, zql, zqm, zqn, zqo, zqp, zqq, zqr, zqs]; try simp only [go_sem, seval])))); exact rfl) (by exact rfl)) ?_
    refine wk ?_
    refine AW.lk (S := { m : Nat // (m : Int) ≤ n }) [0, 2, 4, 5] (fun s_ => [(6, .row 4 0 (pagesI s_.1).length), (7, .int .i64 s_.1)]) (fun s_ => [(0, .cells [.raw (.slice none 0 0), .int .i64 0, .int .i64 0, .int .i64 0, .str [], .raw (.slice none 0 0), .raw (.slice none 0 0)]), (2, .cells [.int .i64 kaBox.kind, .int .i64 kaBox.num, .int .i64 kaBox.gen, .str kaBox.str, .sl (strsAV kaBox.keys), .sl (objsAV kaBox.kids)]), (3, .cells [.int .i64 6, .int .i64 0, .int .i64 0, .str [], .raw (.slice none 0 0), .row 5 0 (kidsN s_.1).length]), (4, .row 8 (itemsAV (pagesI s_.1)) true), (5, .row 6 (objsAV (kidsN s_.1)) true)]) 6 (fun s_ => (n - s_.1).toNat) ⟨0, by omega⟩ ?_ ?_
    · refine St.le.vw [0, 1, 2, 3, 4, 5]
    rintro ⟨m, hm⟩
    try dsimp only at hm
    refine AW.seq ?_
    refine AW.rS ?_
    refine AW.c2 ?_ ?_
    · intro h28
      refine AW.skip ?_
      refine AW.seq ?_
      refine AW.block ?_
      have hkl := kidsN_length m
      have hil := pagesI_length m
      have hks := kidsN_succ m
      have his := pagesI_succ m
      have hks2 := kidsN_length (m + 1)
      have his2 := pagesI_length (m + 1)
      refine AW.fS [0, 1, 2, 3, 4, 5] [(6, 2), (7, 2), (8, 2)] ?_
      refine awFun.rn ?_
      refine awFun.c1 [31] (c_foliantref05_Ref _ (3 + m) 0) ?_
      refine awFun.rn ?_
      refine awFun.bs [32] ?_
      refine awFun.rn ?_
      rw [Aw.awFun_nil]
      refine awPlan.rn ?_
      refine AW.fL [0, 1, 2, 4, 3, 5, 6, 7, 8, 9, 10] [(11, 2), (12, 2)] ?_
      refine awFun.rn ?_
      refine awFun.bs [] ?_
      refine awFun.rn ?_
      refine awFun.c1 [] (c_foliantref05_Ref _ 2 0) ?_
      refine awFun.rn ?_
      refine awFun.c1 [] (c_foliantref05_Key _ nwPageK) ?_
      refine awFun.rn ?_
      refine awFun.bs [40, 41, 42] ?_
      refine awFun.rn ?_
      refine awFun.ef [39, 43] ?_
      refine awFun.rn ?_
      refine awFun.ef [38, 44] ?_
      refine awFun.rn ?_
      refine awFun.bs [45] ?_
      refine awFun.rn ?_
      rw [Aw.awFun_nil]
      refine awPlan.rn ?_
      refine AW.rL ?_
      refine ⟨⟨m + 1, by omega⟩, ?_, ?_⟩
      · refine St.le.vx [0, 1, 2, 3, 7, 6] ?_
        rw [hks, his, pageO_eq]; simp [objsAV_map, itemsAV]; first | rfl | (simp [Itm.cells, pageL, objsAV_map, strsAV, Pob.cells_eq, Pob.kids, Pob.keys, kaBox, boxO]; done) | (refine ⟨?_, ?_⟩ <;> rfl)
      · simp only []; omega
    · intro h28
      refine AW.exit ?_
      obtain rfl : n = (m : Int) := by omega
      have hkl := kidsN_length m
      have hil := pagesI_length m
      refine AW.rSC ?_
      refine awOps.cons (awGuard.c1 (c_foliantref05_Ref _ 1 0) ?_)
      refine awOps.rn ?_
      refine AW.pre (St.le.nilcell 8 0 8 (by (simp only [go_sem, seval]; try (simp (disch := omega) only [zqa, zqb, zqc, zqd, zqe, zqf, zqg, zqh, zqi, zqj, zqk, zql, zqm, zqn, zqo, zqp, zqq, zqr, zqs]; try (simp only [go_sem, seval]; try (simp (disch := omega) only [zqa, zqb, zqc, zqd, zqe, zqf, zqg, zqh, zqi, zqj, zqk, zql, zqm, zqn, zqo, zqp, zqq, zqr, zqs]; try simp only [go_sem, seval])))); exact rfl) (by exact rfl)) ?_
      refine wk ?_
      refine AW.fS [0, 1, 2, 3, 4, 5, 6, 7, 8] [(9, 2), (10, 2), (11, 2)] ?_
      refine awFun.rn ?_
      refine awFun.bs [] ?_
      refine awFun.rn ?_
      refine awFun.c1 [] (c_foliantref05_Ref _ 2 0) ?_
      refine awFun.rn ?_
      refine awFun.c1 [] (c_foliantref05_Key _ nwCatalogK) ?_
      refine awFun.rn ?_
      refine awFun.bs [56, 57] ?_
      refine awFun.rn ?_
      refine awFun.ef [55, 58] ?_
      refine awFun.rn ?_
      refine awFun.ef [59] ?_
      refine awFun.rn ?_
      refine awFun.bs [60] ?_
      refine awFun.rn ?_
      rw [Aw.awFun_nil]
      refine awPlan.rn ?_
      refine AW.fz [5] ?_ (by (simp only [go_sem, seval]; try (simp (disch := omega) only [zqa, zqb, zqc, zqd, zqe, zqf, zqg, zqh, zqi, zqj, zqk, zql, zqm, zqn, zqo, zqp, zqq, zqr, zqs]; try (simp only [go_sem, seval]; try (simp (disch := omega) only [zqa, zqb, zqc, zqd, zqe, zqf, zqg, zqh, zqi, zqj, zqk, zql, zqm, zqn, zqo, zqp, zqq, zqr, zqs]; try simp only [go_sem, seval])))); exact rfl)
      refine wk ?_
      refine AW.fS [0, 1, 3, 5, 2, 4, 6, 7, 8, 9, 10] [(11, 2), (12, 2), (13, 2)] ?_
      refine awFun.rn ?_
      refine awFun.bs [] ?_
      refine awFun.rn ?_
      refine awFun.c1 [67] (c_foliantref05_Int _ m) ?_
      refine awFun.rn ?_
      refine awFun.c1 [] (c_foliantref05_Key _ nwPagesK) ?_
      refine awFun.rn ?_
      refine awFun.bs [68, 69, 70] ?_
      refine awFun.rn ?_
      refine awFun.ef [66, 71] ?_
      refine awFun.rn ?_
      refine awFun.ef [72] ?_
      refine awFun.rn ?_
      refine awFun.bs [73] ?_
      refine awFun.rn ?_
      rw [Aw.awFun_nil]
      refine awPlan.rn ?_
      refine AW.rS ?_
      refine AW.rS ?_
      refine AW.rt ?_
      rw [newD, newE, if_neg (by omega), if_neg (by omega), rootN_eq, trailN_eq, treeN_eq (by omega)]
      refine ⟨by omega, ?_⟩
      rw [List.take_of_length_le (by simp [itemsAV_length]; omega)]
      rfl
theorem c_law_CatalogNews (gl : List (Nat × AV)) (n : Int) : FnP Tryz.prog (gl) 3 [.int .i64 n] fun r => r = .ret (.bool true) := by
  refine FnP.intro Tryz.func3 rfl rfl (by simp [Tryz.ntmps3]) ?_
  simp only [argEnv, Tryz.ntmps3, Tryz.results3]
  refine AW.rS ?_
  refine AW.seq ?_
  refine AW.rS ?_
  refine AW.c2 ?_ ?_
  · intro h4
    refine AW.rSC ?_
    refine awOps.cons (awGuard.c1 (c_law34_lives _) ?_)
    refine awOps.rn ?_
    refine AW.rt ?_
    all_goals first | contradiction | rfl | (simp; done) | (simp; omega)
  · intro h4
    refine AW.skip ?_
    refine AW.rSC ?_
    refine awOps.cons (awGuard.c1 (c_catalog_New _ n) ?_)
    refine awOps.rn ?_
    refine AW.rSC ?_
    refine awOps.cons (awGuard.c1 (c_foliantref34_New _ n) ?_)
    refine awOps.rn ?_
    refine AW.rSC ?_
    refine awOps.cons (awGuard.c1 (c_foliantref19_Same _ (newD n) (newD n) (by have := newD_bulk (n := n) (by omega); omega)) ?_)
    refine awOps.rn ?_
    refine awOps.cons (awGuard.cG (fun hg => c_foliantref19_Check _ (newD n) (by have := newD_tot (n := n) (by omega); omega)) ?_)
    refine awOps.rn ?_
    refine awOps.cons (awGuard.cG (fun hg => c_law34_lives _) ?_)
    refine awOps.rn ?_
    refine AW.rt ?_
    by_cases h : newE n = 0
    · have hr : ¬ (n < 0 ∨ 2048 < n) := by
        intro hr
        rw [newE, if_pos hr] at h
        cases h
      have hd : docE (newD n) = 0 := new_doc (by omega) (by omega)
      simp [h, hd]
    · simp [h]
end Go.Proofs
