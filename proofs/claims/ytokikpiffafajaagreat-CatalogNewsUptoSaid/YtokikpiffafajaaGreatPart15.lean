/- A part of the proof of a law of the seat: no condition of its own. -/
import Derived.Test.YtokikpiffafajaaGreatPart14
set_option linter.unusedVariables false
set_option linter.unusedSimpArgs false
namespace Aw
open Go
theorem null_tot : Pob.null.tot = 7 := by rw [Pob.tot_eq]; simp [Pob.null, Pob.str, Pob.keys, Pob.kids, tots]
theorem follow_tot (d : Dc) (o : Pob) : (followO d o).tot ≤ d.tot + o.tot := by
  have hn := null_tot
  have ho := Pob.tot_str o
  simp only [Dc.tot]
  unfold followO
  split
  · omega
  · split
    · omega
    · split
      · omega
      · have := itots_get (l := d.items) (i := (iidxI d.items o.num).toNat) (by have := iidxI_lt (l := d.items) (n := o.num); omega)
        omega
theorem get_tot (o : Pob) (k : List UInt8) : (getO o k).tot ≤ o.tot := by
  have hn := null_tot
  have ho := Pob.tot_str o
  unfold getO
  split
  · rename_i h
    simp only [getB, Bool.and_eq_true, decide_eq_true_eq] at h
    obtain ⟨⟨_, h1⟩, _⟩ := h
    have hl : kidxI o.keys k < o.kids.length := by omega
    have := Pob.tot_kid (o := o) (i := (kidxI o.keys k).toNat) (by omega)
    omega
  · omega
theorem setO_tot (o : Pob) (k : List UInt8) (v : Pob) : (setO o k v).tot ≤ o.tot + v.tot + k.length + 1 := by
  have hn := null_tot
  have ho := Pob.tot_str o
  unfold setO
  split
  · omega
  · split
    · have := dropO_tot o k; omega
    · exact withK_tot o k v
theorem infoR_tot (d : Dc) : (infoR d).tot ≤ d.tot := by
  have := get_tot d.trailer infoK
  have h2 : d.tot = itots d.items + d.trailer.tot := rfl
  show (getO d.trailer infoK).tot ≤ _
  omega
theorem infoO_tot (d : Dc) : (infoO d).tot ≤ 2 * d.tot := by
  have h1 := infoR_tot d
  have h2 := follow_tot d (infoR d)
  show (followO d (infoR d)).tot ≤ _
  omega
theorem look_tot (d : Dc) (n : Int) : ((lookI d.items n).getD Itm.zero).obj.tot ≤ d.tot + 7 := by
  have hn := null_tot
  simp only [Dc.tot]
  unfold lookI
  split
  · simp only [Option.getD_none]; show Pob.null.tot ≤ _; omega
  · have := itots_get (l := d.items) (i := (iidxI d.items n).toNat) (by have := iidxI_lt (l := d.items) (n := n); omega)
    simp only [Option.getD_some]; omega
/-- the item that is followed to -/
theorem follow_item {d : Dc} {o : Pob} (h8 : o.kind = 8) (h : ¬ (followO d o).kind = 0) : (lookI d.items o.num).getD Itm.zero = ⟨o.num, o.gen, followO d o⟩ := by
  have hk : Pob.null.kind = 0 := rfl
  unfold followO at h ⊢
  rw [if_neg (by simp [h8])] at h ⊢
  by_cases h1 : iidxI d.items o.num < 0
  · rw [if_pos h1] at h; exact absurd hk h
  rw [if_neg h1] at h ⊢
  by_cases h2 : (d.items.getD (iidxI d.items o.num).toNat Itm.zero).gen ≠ o.gen
  · rw [if_pos h2] at h; exact absurd hk h
  rw [if_neg h2] at h ⊢
  rcases iidxI_cases d.items o.num with ⟨i, hi, e, hn⟩ | ⟨e, _⟩
  · rw [look_hit (by omega), Option.getD_some, e, Int.toNat_natCast]
    rw [e, Int.toNat_natCast] at h2
    rw [Itm_eq]
    exact ⟨hn, by simpa using h2, rfl⟩
  · omega
theorem info_item {d : Dc} (h : (infoO d).kind = 7) (h' : (infoR d).kind = 8) : (lookI d.items (infoR d).num).getD Itm.zero = ⟨(infoR d).num, (infoR d).gen, infoO d⟩ := by
  have hf := follow_item (d := d) h' (by show ¬ (infoO d).kind = 0; omega)
  rw [hf]; rfl
theorem dict0_ok : chk dict0 1 = 0 := by decide +kernel
theorem dict_one {k : List UInt8} {v : Pob} (hv : v.kind ≠ 0) : dictO [nameO k, v] = setO dict0 k v := by
  have ha : dictArg [nameO k, v] = true := by
    simp only [dictArg, Bool.and_eq_true, decide_eq_true_eq]
    refine ⟨by simp, ?_⟩
    intro i hi h2
    have : i = 0 := by simp at hi; omega
    subst this; rfl
  have hl : dictL [nameO k, v] [] dict0 = some (dict0.withK k v) := by
    rw [dictL, if_neg (by simp), dictL]
    · rw [if_pos hv]; rfl
    · simp
  rw [(dict_some ha hl).2, (set_val (by rfl) dict0_ok hv).2]
/-- the reference's own words for SetInfo -/
theorem rput_add {d : Dc} {k t : List UInt8} (h : ¬ (infoO d).kind = 7) (ht : t ≠ []) : putInfoE d k t = (if addE d (setO dict0 k (textO t)) ≠ 0 then addE d (setO dict0 k (textO t)) else setE (addO d (setO dict0 k (textO t))).trailer infoK (refO (addN d (setO dict0 k (textO t))) 0)) := by
  have hv : (textO t).kind ≠ 0 := by rw [textO_some ht]; show (4 : Int) ≠ 0; decide
  unfold putInfoE trailedE
  rw [if_neg (by simp [h]), if_neg h, if_neg ht, dict_one hv]
theorem rput_addD {d : Dc} {k t : List UInt8} (h : ¬ (infoO d).kind = 7) (ht : t ≠ []) : putInfoD d k t = (if addE d (setO dict0 k (textO t)) ≠ 0 then Dc.zero else if setE (addO d (setO dict0 k (textO t))).trailer infoK (refO (addN d (setO dict0 k (textO t))) 0) ≠ 0 then Dc.zero else ⟨(addO d (setO dict0 k (textO t))).items, setO (addO d (setO dict0 k (textO t))).trailer infoK (refO (addN d (setO dict0 k (textO t))) 0)⟩) := by
  have hv : (textO t).kind ≠ 0 := by rw [textO_some ht]; show (4 : Int) ≠ 0; decide
  unfold putInfoD trailedD
  rw [if_neg (by simp [h]), if_neg h, if_neg ht, dict_one hv]
theorem rput_dict {d : Dc} {k t : List UInt8} (h : (infoO d).kind = 7) : putInfoE d k t = (if setE (infoO d) k (textO t) ≠ 0 then setE (infoO d) k (textO t) else if (infoR d).kind = 8 then putE d ⟨(infoR d).num, (infoR d).gen, setO (infoO d) k (textO t)⟩ else setE d.trailer infoK (setO (infoO d) k (textO t))) := by
  unfold putInfoE trailedE
  by_cases h8 : (infoR d).kind = 8
  · rw [if_pos ⟨h, h8⟩, info_item h h8, if_pos h8]; rfl
  · rw [if_neg (by simp [h8]), if_pos h, if_neg h8]
theorem rput_dictD {d : Dc} {k t : List UInt8} (h : (infoO d).kind = 7) : putInfoD d k t = (if setE (infoO d) k (textO t) ≠ 0 then Dc.zero else if (infoR d).kind = 8 then putO d ⟨(infoR d).num, (infoR d).gen, setO (infoO d) k (textO t)⟩ else if setE d.trailer infoK (setO (infoO d) k (textO t)) ≠ 0 then Dc.zero else ⟨d.items, setO d.trailer infoK (setO (infoO d) k (textO t))⟩) := by
  unfold putInfoD trailedD
  by_cases h8 : (infoR d).kind = 8
  · rw [if_pos ⟨h, h8⟩, info_item h h8, if_pos h8]; rfl
  · rw [if_neg (by simp [h8]), if_pos h, if_neg h8]
theorem dict0_tot : dict0.tot = 7 := by rw [Pob.tot_eq]; simp [dict0, Pob.str, Pob.keys, Pob.kids, tots]
theorem refO_tot (n g : Int) : (refO n g).tot = 7 := by rw [Pob.tot_eq]; simp [refO, Pob.str, Pob.keys, Pob.kids, tots]
theorem strO_tot (t : List UInt8) : (strO t).tot = t.length + 7 := by rw [Pob.tot_eq]; simp [strO, Pob.str, Pob.keys, Pob.kids, tots]
theorem zero_tot : Dc.zero.tot = 7 := by simp [Dc.zero, Dc.tot, itots, null_tot]
theorem putO_tot (d : Dc) (i : Itm) : (putO d i).tot ≤ d.tot + i.tot + 7 := by
  unfold putO
  split
  · rw [zero_tot]; omega
  · have := itots_lay d.items i
    simp only [Dc.tot]
    omega
theorem addO_tot (d : Dc) (o : Pob) : (addO d o).tot ≤ d.tot + o.tot + 10 := by
  unfold addO
  split
  · rw [zero_tot]; omega
  · have := putO_tot d ⟨freeN d, 0, o⟩
    simp only [Itm.tot] at this
    omega
theorem trailer_tot (d : Dc) : d.trailer.tot ≤ d.tot := by simp only [Dc.tot]; omega
section
variable {d : Dc} {k t : List UInt8} {v : Pob}
theorem rd_bad (ht : textO t = v) (h : (infoO d).kind = 7) (hs : ¬ setE (infoO d) k v = 0) : putInfoE d k t = setE (infoO d) k v ∧ putInfoD d k t = Dc.zero := by
  rw [rput_dict h, rput_dictD h, ht, if_pos hs, if_pos hs]; exact ⟨rfl, rfl⟩
theorem rd_put (ht : textO t = v) (h : (infoO d).kind = 7) (hs : setE (infoO d) k v = 0) (h8 : (infoR d).kind = 8) : putInfoE d k t = putE d ⟨(infoR d).num, (infoR d).gen, setO (infoO d) k v⟩ ∧ putInfoD d k t = putO d ⟨(infoR d).num, (infoR d).gen, setO (infoO d) k v⟩ := by
  rw [rput_dict h, rput_dictD h, ht]
  constructor
  · rw [if_neg (by simpa using hs), if_pos h8]
  · rw [if_neg (by simpa using hs), if_pos h8]
theorem rd_trb (ht : textO t = v) (h : (infoO d).kind = 7) (hs : setE (infoO d) k v = 0) (h8 : ¬ (infoR d).kind = 8) (h9 : ¬ setE d.trailer infoK (setO (infoO d) k v) = 0) : putInfoE d k t = setE d.trailer infoK (setO (infoO d) k v) ∧ putInfoD d k t = Dc.zero := by
  rw [rput_dict h, rput_dictD h, ht]
  constructor
  · rw [if_neg (by simpa using hs), if_neg h8]
  · rw [if_neg (by simpa using hs), if_neg h8, if_pos h9]
theorem rd_trs (ht : textO t = v) (h : (infoO d).kind = 7) (hs : setE (infoO d) k v = 0) (h8 : ¬ (infoR d).kind = 8) (h9 : setE d.trailer infoK (setO (infoO d) k v) = 0) : putInfoE d k t = 0 ∧ putInfoD d k t = ⟨d.items, setO d.trailer infoK (setO (infoO d) k v)⟩ := by
  rw [rput_dict h, rput_dictD h, ht]
  constructor
  · rw [if_neg (by simpa using hs), if_neg h8, h9]
  · rw [if_neg (by simpa using hs), if_neg h8, if_neg (by simpa using h9)]
theorem ra_bad (ht : textO t = v) (h : ¬ (infoO d).kind = 7) (hn : t ≠ []) (hs : ¬ addE d (setO dict0 k v) = 0) : putInfoE d k t = addE d (setO dict0 k v) ∧ putInfoD d k t = Dc.zero := by
  rw [rput_add h hn, rput_addD h hn, ht, if_pos hs, if_pos hs]; exact ⟨rfl, rfl⟩
theorem ra_trb (ht : textO t = v) (h : ¬ (infoO d).kind = 7) (hn : t ≠ []) (hs : addE d (setO dict0 k v) = 0) (h9 : ¬ setE (addO d (setO dict0 k v)).trailer infoK (refO (addN d (setO dict0 k v)) 0) = 0) : putInfoE d k t = setE (addO d (setO dict0 k v)).trailer infoK (refO (addN d (setO dict0 k v)) 0) ∧ putInfoD d k t = Dc.zero := by
  rw [rput_add h hn, rput_addD h hn, ht]
  constructor
  · rw [if_neg (by simpa using hs)]
  · rw [if_neg (by simpa using hs), if_pos h9]
theorem ra_trs (ht : textO t = v) (h : ¬ (infoO d).kind = 7) (hn : t ≠ []) (hs : addE d (setO dict0 k v) = 0) (h9 : setE (addO d (setO dict0 k v)).trailer infoK (refO (addN d (setO dict0 k v)) 0) = 0) : putInfoE d k t = 0 ∧ putInfoD d k t = ⟨(addO d (setO dict0 k v)).items, setO (addO d (setO dict0 k v)).trailer infoK (refO (addN d (setO dict0 k v)) 0)⟩ := by
  rw [rput_add h hn, rput_addD h hn, ht]
  constructor
  · rw [if_neg (by simpa using hs), h9]
  · rw [if_neg (by simpa using hs), if_neg (by simpa using h9)]
end
end Aw

namespace Go.Proofs
open Go Aw
set_option linter.unusedSimpArgs false
set_option linter.unusedVariables false
set_option maxRecDepth 100000
set_option maxHeartbeats 2000000
theorem c_foliantref05_Int (gl : List (Nat × AV)) (n : Int) : FnP Tryz.prog (gl) 34 [.int .i64 n] fun r => r = .ret (.agg (intO n).cells) := by
  refine FnP.intro Tryz.func34 rfl rfl (by simp [Tryz.ntmps34]) ?_
  simp only [argEnv, Tryz.ntmps34, Tryz.results34]
  refine AW.rS ?_
  refine AW.rS ?_
  refine AW.rt ?_
  all_goals first | contradiction | rfl | (simp; done) | (simp; omega)
theorem c_foliantref05_Ref (gl : List (Nat × AV)) (n g : Int) : FnP Tryz.prog (gl) 35 [.int .i64 n, .int .i64 g] fun r => r = .ret (.agg (refO n g).cells) := by
  refine FnP.intro Tryz.func35 rfl rfl (by simp [Tryz.ntmps35]) ?_
  simp only [argEnv, Tryz.ntmps35, Tryz.results35]
  refine AW.rS ?_
  refine AW.rS ?_
  refine AW.rt ?_
  all_goals first | contradiction | rfl | (simp; done) | (simp; omega)
theorem c_foliantref05_Key (gl : List (Nat × AV)) (s : List UInt8) : FnP Tryz.prog (gl) 36 [.str s] fun r => r = .ret (.agg (nameO s).cells) := by
  refine FnP.intro Tryz.func36 rfl rfl (by simp [Tryz.ntmps36]) ?_
  simp only [argEnv, Tryz.ntmps36, Tryz.results36]
  refine AW.rS ?_
  refine AW.rS ?_
  refine AW.rt ?_
  all_goals first | contradiction | rfl | (simp; done) | (simp; omega)
theorem c_foliantref05_Text (gl : List (Nat × AV)) (s : List UInt8) : FnP Tryz.prog (gl) 59 [.str s] fun r => r = .ret (.agg (strO s).cells) := by
  refine FnP.intro Tryz.func59 rfl rfl (by simp [Tryz.ntmps59]) ?_
  simp only [argEnv, Tryz.ntmps59, Tryz.results59]
  refine AW.rS ?_
  refine AW.rS ?_
  refine AW.rt ?_
  all_goals first | contradiction | rfl | (simp; done) | (simp; omega)
theorem c_foliantref05_Array (gl : List (Nat × AV)) (l : List Pob) : FnP Tryz.prog (gl) 33 [.sl (objsAV l)] fun r => r = .ret (.agg (arrO l).cells) := by
  refine FnP.intro Tryz.func33 rfl rfl (by simp [Tryz.ntmps33]) ?_
  simp only [argEnv, Tryz.ntmps33, Tryz.results33]
  refine AW.rS ?_
  refine AW.rS ?_
  refine AW.rt ?_
  all_goals first | contradiction | rfl | (simp; done) | (simp; omega)
theorem c_foliantref34_Root (gl : List (Nat × AV)) (d : Dc) (h : d.tot ≤ 16777216) : FnP Tryz.prog (gl) 15 [.agg d.cells] fun r => r = .ret (.tup [.agg (rootO d).cells, .int .i64 (docE d)]) := by
  refine FnP.intro Tryz.func15 rfl rfl (by simp [Tryz.ntmps15]) ?_
  simp only [argEnv, Tryz.ntmps15, Tryz.results15]
  have hb := d.bulk_tot
  have hb2 : d.bulk = ibulk d.items + d.trailer.bulk := rfl
  refine AW.rS ?_
  refine AW.seq ?_
  refine AW.rSC ?_
  refine awOps.cons (awGuard.c1 (c_foliantref19_Check _ d (by omega)) ?_)
  refine awOps.rn ?_
  refine AW.rS ?_
  refine AW.c2 ?_ ?_
  · intro h7
    refine AW.rS ?_
    refine AW.rt ?_
    rw [rootO, if_neg h7]; rfl
  · intro h7
    refine AW.skip ?_
    refine AW.rSC ?_
    refine awOps.cons (awGuard.c1 (c_foliantref05_Get _ d.trailer rootK (by omega)) ?_)
    refine awOps.rn ?_
    refine AW.rSC ?_
    refine awOps.cons (awGuard.c1 (c_foliantref19_Get _ d (getO d.trailer rootK).num (by omega)) ?_)
    refine awOps.rn ?_
    refine AW.rS ?_
    refine AW.rt ?_
    rw [rootO, if_pos h7, h7]; rfl
theorem c_foliantref34_key (gl : List (Nat × AV)) (k : List UInt8) (hl : k.length ≤ 16777216) : FnP Tryz.prog (gl) 48 [.str k] fun r => r = .ret (.int .i64 (keyE k)) := by
  refine FnP.intro Tryz.func48 rfl rfl (by simp [Tryz.ntmps48]) ?_
  simp only [argEnv, Tryz.ntmps48, Tryz.results48]
  refine AW.rS ?_
  refine AW.seq ?_
  refine AW.rS ?_
  refine AW.c2 ?_ ?_
  · intro h4
    refine AW.rS ?_
    refine AW.rt ?_
    rw [key_form (.inl h4)]
  · intro h4
    refine AW.skip ?_
    refine AW.seq ?_
    refine AW.rS ?_
    refine AW.block ?_
    refine AW.lk (S := { i : Nat // i ≤ k.length ∧ ∀ j, j < i → k.getD j 0 ≠ 0 }) [0] (fun s_ => [(3, .int .i64 s_.1)]) (fun s_ => []) 0 (fun s_ => k.length - s_.1) ⟨0, Nat.zero_le _, fun j h => absurd h (by omega)⟩ ?_ ?_
    · refine St.le.vw []
    rintro ⟨i, hi, hs⟩
    try dsimp only at hi
    try dsimp only at hs
    refine AW.seq ?_
    refine AW.rS ?_
    refine AW.c2 ?_ ?_
    · intro h15
      refine AW.skip ?_
      refine AW.seq ?_
      refine AW.block ?_
      refine AW.rS ?_
      refine AW.c2 ?_ ?_
      · intro h20
        refine AW.rS ?_
        refine AW.rt ?_
        rw [key_form (.inr (by by_cases hh : 0 ≤ Lib.indexByte k 0; exact hh; have hz : k.getD i 0 = 0 := UInt8.toNat_inj.1 (by simpa using h20); exact absurd hz ((@idxb_neg k 0).1 (by omega) i (by omega))))]
      · intro h20
        refine AW.skip ?_
        refine AW.rL ?_
        refine ⟨⟨i + 1, by omega, fun j hj => by rcases Nat.lt_succ_iff_lt_or_eq.1 hj with h | rfl; exact hs j h; exact fun e => h20 (by rw [e]; rfl)⟩, ?_, ?_⟩
        · refine St.le.vw []
        · simp only []; omega
    · intro h15
      refine AW.exit ?_
      have hno : ¬ (k = [] ∨ 0 ≤ Lib.indexByte k 0) := by
        have := (@idxb_neg k 0).2 (fun j hj => hs j (by omega))
        rintro (h | h)
        · exact h4 h
        · omega
      refine AW.seq ?_
      refine AW.rS ?_
      refine AW.c2 ?_ ?_
      · intro h30
        refine AW.rS ?_
        refine AW.rt ?_
        rw [key_long hno h30]
      · intro h30
        refine AW.skip ?_
        refine AW.rS ?_
        refine AW.rt ?_
        rw [key_fine hno (by omega)]
theorem c_foliantref34_SetRoot (gl : List (Nat × AV)) (d : Dc) (k : List UInt8) (o : Pob) (h : d.tot + o.tot + k.length ≤ 4000000) : FnP Tryz.prog (gl) 17 [.agg d.cells, .str k, .agg o.cells] fun r => r = .ret (.tup [.agg (setRootD d k o).cells, .int .i64 (setRootE d k o)]) := by
  refine FnP.intro Tryz.func17 rfl rfl (by simp [Tryz.ntmps17]) ?_
  simp only [argEnv, Tryz.ntmps17, Tryz.results17]
  have hl := look_tot d (getO d.trailer rootK).num
  have hs := setO_tot (rootI d).obj k o
  have hr : (rootI d).obj.tot ≤ d.tot + 7 := hl
  refine AW.rS ?_
  refine AW.rSC ?_
  refine awOps.cons (awGuard.c1 (c_foliantref34_Root _ d (by omega)) ?_)
  refine awOps.rn ?_
  refine AW.seq ?_
  refine AW.rS ?_
  refine AW.c2 ?_ ?_
  · intro h7
    have hro : rootO d = rootI d := by rw [rootO, if_pos h7]
    rw [hro]
    refine AW.rLC ?_
    refine awOps.cons (awGuard.c1 (c_foliantref34_key _ k (by omega)) ?_)
    refine awOps.rn ?_
    refine AW.seq ?_
    refine AW.rS ?_
    refine AW.c2 ?_ ?_
    · intro h13
      refine AW.rLC ?_
      refine awOps.cons (awGuard.c1 (c_foliantref05_Check _ o (by omega)) ?_)
      refine awOps.rn ?_
      refine AW.seq ?_
      refine AW.rS ?_
      refine AW.c2 ?_ ?_
      · intro h19
        refine AW.rS ?_
        refine AW.rt ?_
        rw [(setRoot_obj h7 h13 h19).1, (setRoot_obj h7 h13 h19).2]; rfl
      · intro h19
        refine AW.skip ?_
        refine AW.rSC ?_
        refine awOps.cons (awGuard.c1 (c_foliantref05_Set _ (rootI d).obj k o (by omega)) ?_)
        refine awOps.rn ?_
        refine AW.seq ?_
        refine AW.rS ?_
        refine AW.c2 ?_ ?_
        · intro h29
          refine AW.rS ?_
          refine AW.rt ?_
          rw [(setRoot_ok h7 h13 h19).1, (setRoot_ok h7 h13 h19).2, (with_bad h29).1, (with_bad h29).2]; rfl
        · intro h29
          refine AW.skip ?_
          refine AW.rSC ?_
          refine awOps.cons (awGuard.c1 (c_foliantref19_Put _ d ⟨(rootI d).num, (rootI d).gen, setO (rootI d).obj k o⟩ (by simp only [Itm.tot]; omega)) ?_)
          refine awOps.rn ?_
          refine AW.rt ?_
          rw [(setRoot_ok h7 h13 h19).1, (setRoot_ok h7 h13 h19).2, (with_ok h29).1, (with_ok h29).2]
    · intro h13
      refine AW.skip ?_
      refine AW.seq ?_
      refine AW.rS ?_
      refine AW.c2 ?_ ?_
      · intro h42
        refine AW.rS ?_
        refine AW.rt ?_
        rw [(setRoot_key h7 h13).1, (setRoot_key h7 h13).2]; rfl
      · intro h42
        exact absurd h42 h13
  · intro h7
    refine AW.skip ?_
    refine AW.seq ?_
    refine AW.rS ?_
    refine AW.c2 ?_ ?_
    · intro h65
      exact absurd h65 h7
    · intro h65
      refine AW.skip ?_
      refine AW.seq ?_
      refine AW.rS ?_
      refine AW.c2 ?_ ?_
      · intro h94
        refine AW.rS ?_
        refine AW.rt ?_
        rw [(setRoot_doc h7).1, (setRoot_doc h7).2]; rfl
      · intro h94
        exact absurd h94 h7
theorem c_foliantref34_Info (gl : List (Nat × AV)) (d : Dc) (k : List UInt8) (h : d.tot ≤ 4000000) : FnP Tryz.prog (gl) 22 [.agg d.cells, .str k] fun r => r = .ret (.str (infoS d k)) := by
  refine FnP.intro Tryz.func22 rfl rfl (by simp [Tryz.ntmps22]) ?_
  simp only [argEnv, Tryz.ntmps22, Tryz.results22]
  have hb := d.bulk_tot
  have hb2 : d.bulk = ibulk d.items + d.trailer.bulk := rfl
  have hi := infoO_le d
  refine AW.rS ?_
  refine AW.seq ?_
  refine AW.rSC ?_
  refine awOps.cons (awGuard.c1 (c_foliantref19_Check _ d (by omega)) ?_)
  refine awOps.rn ?_
  refine AW.c2 ?_ ?_
  · intro h6
    refine AW.rS ?_
    refine AW.rt ?_
    rw [infoS, if_pos h6]
  · intro h6
    refine AW.skip ?_
    refine AW.rSC ?_
    refine awOps.cons (awGuard.c1 (c_foliantref05_Get _ d.trailer infoK (by omega)) ?_)
    refine awOps.rn ?_
    refine AW.rSC ?_
    refine awOps.cons (awGuard.c1 (c_foliantref19_Follow _ d (infoR d) (by omega)) ?_)
    refine awOps.rn ?_
    refine AW.seq ?_
    refine AW.rS ?_
    refine AW.c2 ?_ ?_
    · intro h19
      refine AW.rS ?_
      refine AW.rt ?_
      rw [infoS, if_neg (by simpa using h6), if_pos (.inl h19)]
    · intro h19
      refine AW.skip ?_
      refine AW.rSC ?_
      refine awOps.cons (awGuard.c1 (c_foliantref05_Get _ (infoO d) k (by omega)) ?_)
      refine awOps.rn ?_
      refine AW.rSC ?_
      refine awOps.cons (awGuard.c1 (c_foliantref19_Follow _ d (getO (infoO d) k) (by omega)) ?_)
      refine awOps.rn ?_
      refine AW.seq ?_
      refine AW.rS ?_
      refine AW.c2 ?_ ?_
      · intro h32
        refine AW.rS ?_
        refine AW.rt ?_
        rw [infoS, if_neg (by simpa using h6), if_pos (.inr h32)]
      · intro h32
        refine AW.skip ?_
        refine AW.rS ?_
        refine AW.rt ?_
        rw [infoS, if_neg (by simpa using h6), if_neg (by rintro (h | h); exact h h19; exact h h32)]
theorem c_foliantref34_SetInfo (gl : List (Nat × AV)) (d : Dc) (k t : List UInt8) (h : d.tot + k.length + t.length ≤ 1500000) : FnP Tryz.prog (gl) 19 [.agg d.cells, .str k, .str t] fun r => r = .ret (.tup [.agg (setInfoD d k t).cells, .int .i64 (setInfoE d k t)]) := by
  refine FnP.intro Tryz.func19 rfl rfl (by simp [Tryz.ntmps19]) ?_
  simp only [argEnv, Tryz.ntmps19, Tryz.results19]
  have hb := d.bulk_tot
  have hb2 : d.bulk = ibulk d.items + d.trailer.bulk := rfl
  have hb3 : d.tot = itots d.items + d.trailer.tot := rfl
  have hr := infoR_tot d
  have ho := infoO_tot d
  have hik : infoK.length = 4 := rfl
  have hrt := refO_tot
  have hln := itots_len d.items
  refine AW.rS ?_
  refine AW.rSC ?_
  refine awOps.cons (awGuard.c1 (c_foliantref19_Check _ d (by omega)) ?_)
  refine awOps.rn ?_
  refine AW.seq ?_
  refine AW.rS ?_
  refine AW.c2 ?_ ?_
  · intro h7
    refine AW.rLC ?_
    refine awOps.cons (awGuard.c1 (c_foliantref34_key _ k (by omega)) ?_)
    refine awOps.rn ?_
    refine AW.seq ?_
    refine AW.rS ?_
    refine AW.c2 ?_ ?_
    · intro h13
      refine AW.rL ?_
      refine AW.seq ?_
      refine AW.rS ?_
      refine AW.c2 ?_ ?_
      · intro h17
        refine AW.rS ?_
        refine AW.rt ?_
        rw [(setInfo_long h7 h13.1 h13.2).1, (setInfo_long h7 h13.1 h13.2).2]; rfl
      · intro h17
        simp at h17
    · intro h13
      refine AW.skip ?_
      refine AW.seq ?_
      refine AW.rS ?_
      refine AW.c2 ?_ ?_
      · intro h193
        refine AW.rS ?_
        refine AW.rt ?_
        rw [(setInfo_key h7 h193).1, (setInfo_key h7 h193).2]; rfl
      · intro h193
        have h13b : ¬ 4096 < (t.length : Int) := by rcases h13 with h | h; exact absurd h193 h; omega
        refine AW.skip ?_
        refine AW.rSC ?_
        refine awOps.cons (awGuard.c1 (c_foliantref05_Text _ t) ?_)
        refine awOps.rn ?_
        refine AW.seq ?_
        refine AW.rS ?_
        refine AW.c2 ?_ ?_
        · intro h203
          have ht : textO t = Pob.null := by rw [show t = [] from h203]; rfl
          have htt := null_tot
          have hso := setO_tot (infoO d) k (Pob.null)
          have hs1 := setO_tot d.trailer infoK (setO (infoO d) k (Pob.null))
          refine AW.rL ?_
          refine AW.rSC ?_
          refine awOps.cons (awGuard.c1 (c_foliantref05_Get _ d.trailer infoK (by omega)) ?_)
          refine awOps.rn ?_
          refine AW.rSC ?_
          refine awOps.cons (awGuard.c1 (c_foliantref19_Follow _ d (infoR d) (by omega)) ?_)
          refine awOps.rn ?_
          refine AW.seq ?_
          refine AW.rS ?_
          refine AW.c2 ?_ ?_
          · intro h213
            refine AW.seq ?_
            refine AW.rS ?_
            refine AW.c2 ?_ ?_
            · intro h216
              refine AW.rS ?_
              refine AW.rt ?_
              rw [(setInfo_ok h7 h193 h13b).1, (setInfo_ok h7 h193 h13b).2, show t = [] from h203, (putInfo_none h213).1, (putInfo_none h213).2]
            · intro h216
              exact absurd h203 h216
          · intro h213
            refine AW.skip ?_
            refine AW.rSC ?_
            refine awOps.cons (awGuard.c1 (c_foliantref05_Set _ (infoO d) k (Pob.null) (by omega)) ?_)
            refine awOps.rn ?_
            refine AW.seq ?_
            refine AW.rS ?_
            refine AW.c2 ?_ ?_
            · intro h258
              refine AW.rS ?_
              refine AW.rt ?_
              rw [(setInfo_ok h7 h193 h13b).1, (setInfo_ok h7 h193 h13b).2, (rd_bad ht h213 h258).1, (rd_bad ht h213 h258).2]; rfl
            · intro h258
              refine AW.skip ?_
              refine AW.seq ?_
              refine AW.rS ?_
              refine AW.c2 ?_ ?_
              · intro h265
                refine AW.rSC ?_
                refine awOps.cons (awGuard.c1 (c_foliantref19_Put _ d ⟨(infoR d).num, (infoR d).gen, setO (infoO d) k (Pob.null)⟩ (by simp only [Itm.tot]; omega)) ?_)
                refine awOps.rn ?_
                refine AW.rt ?_
                rw [(setInfo_ok h7 h193 h13b).1, (setInfo_ok h7 h193 h13b).2, (rd_put ht h213 h258 h265).1, (rd_put ht h213 h258 h265).2]
              · intro h265
                refine AW.skip ?_
                refine AW.rSC ?_
                refine awOps.cons (awGuard.c1 (c_foliantref05_Set _ d.trailer infoK (setO (infoO d) k (Pob.null)) (by omega)) ?_)
                refine awOps.rn ?_
                refine AW.seq ?_
                refine AW.rS ?_
                refine AW.c2 ?_ ?_
                · intro h277
                  refine AW.rS ?_
                  refine AW.rt ?_
                  rw [(setInfo_ok h7 h193 h13b).1, (setInfo_ok h7 h193 h13b).2, (rd_trb ht h213 h258 h265 h277).1, (rd_trb ht h213 h258 h265 h277).2]; rfl
                · intro h277
                  refine AW.skip ?_
                  refine AW.tG (σf := ?sf32) (.take 1 0 (.fork 0 (.fork 2 (.fork 3 (.fork 4 (.fork 5 (.fork 6 (.take 7 0 .done) .stop) .stop) .stop) (.fork 4 (.fork 3 (.fork 5 (.fork 6 (.take 7 0 .done) .stop) .stop) .stop) .stop)) (.fork 4 (.fork 2 (.fork 3 (.fork 5 (.fork 6 (.take 7 0 .done) .stop) .stop) .stop) .stop) .stop)) (.fork 2 (.fork 0 (.fork 3 (.fork 4 (.fork 5 (.fork 6 (.take 7 0 .done) .stop) .stop) .stop) (.fork 4 (.fork 3 (.fork 5 (.fork 6 (.take 7 0 .done) .stop) .stop) .stop) .stop)) (.fork 4 (.fork 0 (.fork 3 (.fork 5 (.fork 6 (.take 7 0 .done) .stop) .stop) .stop) .stop) .stop)) (.fork 4 (.fork 0 (.fork 2 (.fork 3 (.fork 5 (.fork 6 (.take 7 0 .done) .stop) .stop) .stop) .stop) (.fork 2 (.fork 0 (.fork 3 (.fork 5 (.fork 6 (.take 7 0 .done) .stop) .stop) .stop) .stop) .stop)) .stop)))) ?tree32 ?rest32
                  case tree32 =>
                    refine awTree.tk ?_
                    refine awTree.fA ?_ ?_
                    · refine awTree.fA ?_ ?_
                      · refine awTree.fA ?_ ?_
                        · refine awTree.fA ?_ ?_
                          · refine awTree.fA ?_ ?_
                            · refine awTree.fA ?_ ?_
                              · refine awTree.tk ?_
                                exact awTree.dn
                              · exact trivial
                            · exact trivial
                          · exact trivial
                        · refine awTree.fA ?_ ?_
                          · refine awTree.fA ?_ ?_
                            · refine awTree.fA ?_ ?_
                              · refine awTree.fA ?_ ?_
                                · refine awTree.tk ?_
                                  exact awTree.dn
                                · exact trivial
                              · exact trivial
                            · exact trivial
                          · exact trivial
                      · refine awTree.fA ?_ ?_
                        · refine awTree.fA ?_ ?_
                          · refine awTree.fA ?_ ?_
                            · refine awTree.fA ?_ ?_
                              · refine awTree.fA ?_ ?_
                                · refine awTree.tk ?_
                                  exact awTree.dn
                                · exact trivial
                              · exact trivial
                            · exact trivial
                          · exact trivial
                        · exact trivial
                    · refine awTree.fA ?_ ?_
                      · refine awTree.fA ?_ ?_
                        · refine awTree.fA ?_ ?_
                          · refine awTree.fA ?_ ?_
                            · refine awTree.fA ?_ ?_
                              · refine awTree.fA ?_ ?_
                                · refine awTree.tk ?_
                                  exact awTree.dn
                                · exact trivial
                              · exact trivial
                            · exact trivial
                          · refine awTree.fA ?_ ?_
                            · refine awTree.fA ?_ ?_
                              · refine awTree.fA ?_ ?_
                                · refine awTree.fA ?_ ?_
                                  · refine awTree.tk ?_
                                    exact awTree.dn
                                  · exact trivial
                                · exact trivial
                              · exact trivial
                            · exact trivial
                        · refine awTree.fA ?_ ?_
                          · refine awTree.fA ?_ ?_
                            · refine awTree.fA ?_ ?_
                              · refine awTree.fA ?_ ?_
                                · refine awTree.fA ?_ ?_
                                  · refine awTree.tk ?_
                                    exact awTree.dn
                                  · exact trivial
                                · exact trivial
                              · exact trivial
                            · exact trivial
                          · exact trivial
                      · refine awTree.fA ?_ ?_
                        · refine awTree.fA ?_ ?_
                          · refine awTree.fA ?_ ?_
                            · refine awTree.fA ?_ ?_
                              · refine awTree.fA ?_ ?_
                                · refine awTree.fA ?_ ?_
                                  · refine awTree.tk ?_
                                    exact awTree.dn
                                  · exact trivial
                                · exact trivial
                              · exact trivial
                            · exact trivial
                          · refine awTree.fA ?_ ?_
                            · refine awTree.fA ?_ ?_
                              · refine awTree.fA ?_ ?_
                                · refine awTree.fA ?_ ?_
                                  · refine awTree.fA ?_ ?_
                                    · refine awTree.tk ?_
                                      exact awTree.dn
                                    · exact trivial
                                  · exact trivial
                                · exact trivial
                              · exact trivial
                            · exact trivial
                        · exact trivial
                  refine AW.rt ?_
                  rw [(setInfo_ok h7 h193 h13b).1, (setInfo_ok h7 h193 h13b).2, (rd_trs ht h213 h258 h265 h277).1, (rd_trs ht h213 h258 h265 h277).2]
        · intro h203
          have ht := textO_some h203
          have htt := strO_tot t
          have hso := setO_tot (infoO d) k (strO t)
          have hs1 := setO_tot d.trailer infoK (setO (infoO d) k (strO t))
          have hs0 := setO_tot dict0 k (strO t)
          have hd0 := dict0_tot
          have hao := addO_tot d (setO dict0 k (strO t))
          refine AW.skip ?_
          refine AW.rSC ?_
          refine awOps.cons (awGuard.c1 (c_foliantref05_Get _ d.trailer infoK (by omega)) ?_)
          refine awOps.rn ?_
          refine AW.rSC ?_
          refine awOps.cons (awGuard.c1 (c_foliantref19_Follow _ d (infoR d) (by omega)) ?_)
          refine awOps.rn ?_
          refine AW.seq ?_
          refine AW.rS ?_
          refine AW.c2 ?_ ?_
          · intro h294
            refine AW.seq ?_
            refine AW.rS ?_
            refine AW.c2 ?_ ?_
            · intro h297
              exact absurd h297 h203
            · intro h297
              refine AW.skip ?_
              refine AW.rSC ?_
              refine awOps.cons (awGuard.c1 (c_foliantref05_Set _ dict0 k (strO t) (by have := dict0_tot; omega)) ?_)
              refine awOps.rn ?_
              refine AW.rSC ?_
              refine awOps.cons (awGuard.c1 (c_foliantref19_Add _ d (setO dict0 k (strO t)) (by omega)) ?_)
              refine awOps.rn ?_
              refine AW.seq ?_
              refine AW.rS ?_
              refine AW.c2 ?_ ?_
              · intro h310
                refine AW.rS ?_
                refine AW.rt ?_
                rw [(setInfo_ok h7 h193 h13b).1, (setInfo_ok h7 h193 h13b).2, (ra_bad ht h294 h203 h310).1, (ra_bad ht h294 h203 h310).2]; rfl
              · intro h310
                refine AW.skip ?_
                refine AW.fS [0, 1, 2, 3, 4, 5] [(6, 0), (7, 0), (8, 2), (9, 2), (10, 2)] ?_
                refine awFun.rn ?_
                refine awFun.c1 [77] (c_foliantref05_Ref _ (addN d (setO dict0 k (strO t))) 0) ?_
                refine awFun.rn ?_
                refine awFun.c1 [76, 78] (c_foliantref05_Set _ (addO d (setO dict0 k (strO t))).trailer infoK (refO (addN d (setO dict0 k (strO t))) 0) (by have := trailer_tot (addO d (setO dict0 k (strO t))); have := hrt (addN d (setO dict0 k (strO t))) 0; omega)) ?_
                refine awFun.rn ?_
                rw [Aw.awFun_nil]
                refine awPlan.rn ?_
                refine AW.seq ?_
                refine AW.rS ?_
                refine AW.c2 ?_ ?_
                · intro h325
                  refine AW.rS ?_
                  refine AW.rt ?_
                  rw [(setInfo_ok h7 h193 h13b).1, (setInfo_ok h7 h193 h13b).2, (ra_trb ht h294 h203 h310 h325).1, (ra_trb ht h294 h203 h310 h325).2]; rfl
                · intro h325
                  refine AW.skip ?_
                  refine AW.rS ?_
                  refine AW.rt ?_
                  rw [(setInfo_ok h7 h193 h13b).1, (setInfo_ok h7 h193 h13b).2, (ra_trs ht h294 h203 h310 h325).1, (ra_trs ht h294 h203 h310 h325).2]; rfl
          · intro h294
            refine AW.skip ?_
            refine AW.rSC ?_
            refine awOps.cons (awGuard.c1 (c_foliantref05_Set _ (infoO d) k (strO t) (by omega)) ?_)
            refine awOps.rn ?_
            refine AW.seq ?_
            refine AW.rS ?_
            refine AW.c2 ?_ ?_
            · intro h339
              refine AW.rS ?_
              refine AW.rt ?_
              rw [(setInfo_ok h7 h193 h13b).1, (setInfo_ok h7 h193 h13b).2, (rd_bad ht h294 h339).1, (rd_bad ht h294 h339).2]; rfl
            · intro h339
              refine AW.skip ?_
              refine AW.seq ?_
              refine AW.rS ?_
              refine AW.c2 ?_ ?_
              · intro h346
                refine AW.rSC ?_
                refine awOps.cons (awGuard.c1 (c_foliantref19_Put _ d ⟨(infoR d).num, (infoR d).gen, setO (infoO d) k (strO t)⟩ (by simp only [Itm.tot]; omega)) ?_)
                refine awOps.rn ?_
                refine AW.rt ?_
                rw [(setInfo_ok h7 h193 h13b).1, (setInfo_ok h7 h193 h13b).2, (rd_put ht h294 h339 h346).1, (rd_put ht h294 h339 h346).2]
              · intro h346
                refine AW.skip ?_
                refine AW.rSC ?_
                refine awOps.cons (awGuard.c1 (c_foliantref05_Set _ d.trailer infoK (setO (infoO d) k (strO t)) (by omega)) ?_)
                refine awOps.rn ?_
                refine AW.seq ?_
                refine AW.rS ?_
                refine AW.c2 ?_ ?_
                · intro h358
                  refine AW.rS ?_
                  refine AW.rt ?_
                  rw [(setInfo_ok h7 h193 h13b).1, (setInfo_ok h7 h193 h13b).2, (rd_trb ht h294 h339 h346 h358).1, (rd_trb ht h294 h339 h346 h358).2]; rfl
                · intro h358
                  refine AW.skip ?_
                  refine AW.tG (σf := ?sf32b) (.take 1 0 (.fork 0 (.fork 2 (.fork 3 (.fork 4 (.fork 5 (.fork 6 (.take 7 0 .done) .stop) .stop) .stop) (.fork 4 (.fork 3 (.fork 5 (.fork 6 (.take 7 0 .done) .stop) .stop) .stop) .stop)) (.fork 4 (.fork 2 (.fork 3 (.fork 5 (.fork 6 (.take 7 0 .done) .stop) .stop) .stop) .stop) .stop)) (.fork 2 (.fork 0 (.fork 3 (.fork 4 (.fork 5 (.fork 6 (.take 7 0 .done) .stop) .stop) .stop) (.fork 4 (.fork 3 (.fork 5 (.fork 6 (.take 7 0 .done) .stop) .stop) .stop) .stop)) (.fork 4 (.fork 0 (.fork 3 (.fork 5 (.fork 6 (.take 7 0 .done) .stop) .stop) .stop) .stop) .stop)) (.fork 4 (.fork 0 (.fork 2 (.fork 3 (.fork 5 (.fork 6 (.take 7 0 .done) .stop) .stop) .stop) .stop) (.fork 2 (.fork 0 (.fork 3 (.fork 5 (.fork 6 (.take 7 0 .done) .stop) .stop) .stop) .stop) .stop)) .stop)))) ?tree32b ?rest32b
                  case tree32b =>
                    refine awTree.tk ?_
                    refine awTree.fA ?_ ?_
                    · refine awTree.fA ?_ ?_
                      · refine awTree.fA ?_ ?_
                        · refine awTree.fA ?_ ?_
                          · refine awTree.fA ?_ ?_
                            · refine awTree.fA ?_ ?_
                              · refine awTree.tk ?_
                                exact awTree.dn
                              · exact trivial
                            · exact trivial
                          · exact trivial
                        · refine awTree.fA ?_ ?_
                          · refine awTree.fA ?_ ?_
                            · refine awTree.fA ?_ ?_
                              · refine awTree.fA ?_ ?_
                                · refine awTree.tk ?_
                                  exact awTree.dn
                                · exact trivial
                              · exact trivial
                            · exact trivial
                          · exact trivial
                      · refine awTree.fA ?_ ?_
                        · refine awTree.fA ?_ ?_
                          · refine awTree.fA ?_ ?_
                            · refine awTree.fA ?_ ?_
                              · refine awTree.fA ?_ ?_
                                · refine awTree.tk ?_
                                  exact awTree.dn
                                · exact trivial
                              · exact trivial
                            · exact trivial
                          · exact trivial
                        · exact trivial
                    · refine awTree.fA ?_ ?_
                      · refine awTree.fA ?_ ?_
                        · refine awTree.fA ?_ ?_
                          · refine awTree.fA ?_ ?_
                            · refine awTree.fA ?_ ?_
                              · refine awTree.fA ?_ ?_
                                · refine awTree.tk ?_
                                  exact awTree.dn
                                · exact trivial
                              · exact trivial
                            · exact trivial
                          · refine awTree.fA ?_ ?_
                            · refine awTree.fA ?_ ?_
                              · refine awTree.fA ?_ ?_
                                · refine awTree.fA ?_ ?_
                                  · refine awTree.tk ?_
                                    exact awTree.dn
                                  · exact trivial
                                · exact trivial
                              · exact trivial
                            · exact trivial
                        · refine awTree.fA ?_ ?_
                          · refine awTree.fA ?_ ?_
                            · refine awTree.fA ?_ ?_
                              · refine awTree.fA ?_ ?_
                                · refine awTree.fA ?_ ?_
                                  · refine awTree.tk ?_
                                    exact awTree.dn
                                  · exact trivial
                                · exact trivial
                              · exact trivial
                            · exact trivial
                          · exact trivial
                      · refine awTree.fA ?_ ?_
                        · refine awTree.fA ?_ ?_
                          · refine awTree.fA ?_ ?_
                            · refine awTree.fA ?_ ?_
                              · refine awTree.fA ?_ ?_
                                · refine awTree.fA ?_ ?_
                                  · refine awTree.tk ?_
                                    exact awTree.dn
                                  · exact trivial
                                · exact trivial
                              · exact trivial
                            · exact trivial
                          · refine awTree.fA ?_ ?_
                            · refine awTree.fA ?_ ?_
                              · refine awTree.fA ?_ ?_
                                · refine awTree.fA ?_ ?_
                                  · refine awTree.fA ?_ ?_
                                    · refine awTree.tk ?_
                                      exact awTree.dn
                                    · exact trivial
                                  · exact trivial
                                · exact trivial
                              · exact trivial
                            · exact trivial
                        · exact trivial
                  refine AW.rt ?_
                  rw [(setInfo_ok h7 h193 h13b).1, (setInfo_ok h7 h193 h13b).2, (rd_trs ht h294 h339 h346 h358).1, (rd_trs ht h294 h339 h346 h358).2]
  · intro h7
    refine AW.skip ?_
    refine AW.seq ?_
    refine AW.rS ?_
    refine AW.c2 ?_ ?_
    · intro h369
      exact absurd h369.1 h7
    · intro h369
      refine AW.skip ?_
      refine AW.seq ?_
      refine AW.rS ?_
      refine AW.c2 ?_ ?_
      · intro h549
        refine AW.rS ?_
        refine AW.rt ?_
        rw [(setInfo_doc h7).1, (setInfo_doc h7).2]; rfl
      · intro h549
        exact absurd h549 h7
end Go.Proofs
