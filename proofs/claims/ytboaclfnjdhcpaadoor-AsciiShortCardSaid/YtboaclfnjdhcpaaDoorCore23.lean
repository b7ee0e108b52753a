/- Rules of a calculus of walks: no condition of its own. -/
import Derived.Test.YtboaclfnjdhcpaaDoorCore22
namespace Aw
open Go
def estoreF (P : Program) (σ : St) (t : TypeId) (x y : Operand) : Option Eff :=
 match tinfo P t,evE σ x,evE σ y with
 | some i,some p,some q=>match acells q.2 with
  | none=>none
  | some l=>match clos σ.hp l with
   | none=>none
   | some r=>match p.2 with
    | .rptr id idx c=>match get σ.hp id with
     | some (.row sz es own)=>if own = true ∧ c + i.sz ≤ sz ∧ l.length = i.sz ∧ r.2.length = i.sz then
       some ⟨p.1 ∧ q.1 ∧ r.1 ∧ idx < es.length,.raw undef,set σ.hp id (.row sz (es.set idx (splice (es.getD idx []) c r.2)) true),σ.nx⟩
      else none
     | _=>none
    | _=>none
 | _,_,_=>none
theorem splice_nest {α : Type} {F e new : List α} {a c sz : Nat} (h : a + sz ≤ F.length) (hc : c + new.length ≤ sz) (he : (F.drop a).take sz = e) : splice F a (splice e c new) = splice F (a + c) new:=by
 subst he
 apply List.ext_getElem?
 intro i
 unfold splice
 simp only [List.getElem?_take,List.getElem?_drop,List.getElem?_append,List.length_append,List.length_take,List.length_drop]
 grind
theorem flat_get {α : Type} {sz : Nat} : ∀ {es : List (List α)} {i : Nat},(∀ e ∈ es,e.length = sz) → i < es.length → (es.flatten.drop (i * sz)).take sz = es.getD i []
 | e :: es,0,h,_=>by
  have he:=h e (List.mem_cons_self ..)
  simp only [Nat.zero_mul,List.drop_zero,List.flatten_cons,List.getD_cons_zero]
  rw [← he,List.take_left]
 | e :: es,i + 1,h,hi=>by
  have he:=h e (List.mem_cons_self ..)
  rw [List.flatten_cons,show (i + 1) * sz = e.length + i * sz from by rw [Nat.succ_mul,he]; omega,List.drop_length_add_append,List.getD_cons_succ]
  exact flat_get (fun x hx=>h x (List.mem_cons_of_mem _ hx)) (by simpa using hi)
theorem estoreF_sound {P : Program} {m : Mem} {a : Act} {σ : St} (hS : Sim m a σ) {o : Oper} {t : TypeId} {x y : Operand} {e : Eff} (ho : o.op = .store t x y)
  (h : estoreF P σ t x y = some e) (hob : e.ob) : EffOk P m a o e:=by
 unfold estoreF at h
 split at h
 case h_2=>cases h
 rename_i i p q hi hx hy
 split at h
 case h_1=>cases h
 rename_i l hl
 split at h
 case h_1=>cases h
 rename_i r hcl
 split at h
 case h_2=>cases h
 rename_i id idx cc hp
 split at h
 case h_2=>cases h
 rename_i sz es own hg
 split at h
 case isFalse=>cases h
 rename_i hc
 obtain ⟨rfl,hfit,hlen,hlen'⟩:=hc
 simp only [Option.some.injEq] at h
 subst h
 obtain ⟨h1,h2,h3,hidx⟩:=hob
 have hr:=evE_sound hS hx h1
 have hr':=evE_sound hS hy h2
 rw [hp] at hr
 simp only [Rep] at hr
 obtain ⟨_,ri,hρ,hv⟩:=hr
 obtain ⟨ri',hρ',hb⟩:=hS.h.blk id _ hg
 rw [hρ] at hρ'
 injection hρ' with hρ'
 subst hρ'
 rcases hb with ⟨_,h⟩ | ⟨hn,hP,⟨hsz,hsz'⟩,hcap,⟨c,T,lo,hi2,hbk,hfr,hcs⟩,hif⟩
 ·subst h; simp at hidx
 rw [if_pos rfl] at hif
 obtain ⟨hY,hF⟩:=hif
 have hL':=acells_sound hr' hl
 obtain ⟨hL2,hone⟩:=clos_sound hS.h hcl h3 hL'
 have hvl : (a.eval y).cells.toList.length = i.sz:=by rw [hL'.length,hlen]
 have hvl' : (a.eval y).cells.size = i.sz:=by simpa using hvl
 obtain ⟨hall,hX⟩:=RepY.flat.1 hY
 have hLv:=RepX.list hbk hX
 rw [flat_len hall] at hLv
 have e0 : ri.cap * ri.sz = es.length * ri.sz + (ri.cap - es.length) * ri.sz:=by rw [← Nat.add_mul]; congr 1; omega
 have hfit' : cc + i.sz ≤ ri.sz:=by omega
 have e1 : es.length * ri.sz = idx * ri.sz + (1 * ri.sz + (es.length - idx - 1) * ri.sz):=by rw [← Nat.add_mul,← Nat.add_mul]; congr 1; omega
 obtain ⟨c',hc1,hc2⟩:=run_storeCells (P:=P) (a.eval y).cells.toList (ri.o + idx * ri.sz + cc) 0 m.w c hbk (fun i h=>hfr i (Nat.lt_of_lt_of_le h (Nat.le_add_right _ _))) (by omega) hone
 rw [Nat.add_zero] at hc1
 have hcsz : c'.size = c.size:=by
  rw [← Array.length_toList,hc1]
  simp only [splice,List.length_append,List.length_take,List.length_drop,Array.length_toList]
  omega
 have hsame : ∀ j,j < ri.o + idx * ri.sz + cc → c'[j]? = c[j]?:=by
  intro j hj
  rw [← Array.getElem?_toList,← Array.getElem?_toList,hc1]
  unfold splice
  by_cases h : j < c.size
  ·rw [List.append_assoc,List.getElem?_append_left (by simp; omega),List.getElem?_take,if_pos hj]
  ·omega
 have hU : Upd m { m with w:=wset m.w ri.b (.cells c' T (lo,hi2)) } ri.b:=by
  refine Upd.set hS.h hP (fun o h=>?_)
  have hlt : o < ri.o:=by
   rcases Nat.lt_or_ge o ri.o with h' | h'
   ·exact h'
   ·exact (hF o h' h).elim
  simp only [World.cell?,wset_get hbk,hbk,Option.isSome_none,Bool.false_eq_true,if_false]
  exact hsame o (by omega)
 refine ⟨undef,{ m with w:=wset m.w ri.b (.cells c' T (lo,hi2)) },.inr ⟨?_,rfl⟩,hU.le hS.h,hU.keeps hS.h,?_,by simp only [Rep]⟩
 ·simp only [execOp,ho,Instr.storeAt,Instr.sureAddr,hv]
  rw [run_bind (a:=()) (w':=wset m.w ri.b (.cells c' T (lo,hi2)))]
  ·rfl
  ·rw [run_bind (yes_ok P m.w _)]
   unfold storeVar
   rw [run_bind (run_sizeOf_ti hi)]
   rw [if_neg (by simp at hvl; omega)]
   exact hc2
 ·refine hS.h.upd hU (k:=id) (ri:=ri) (blk:=.row sz (es.set idx (splice (es.getD idx []) cc r.2)) true) hρ ?_ (fun _=>rfl) (by rw [get_set,if_pos rfl]) ?_ hS.h.fresh
  ·refine .inr ⟨hn,hP,⟨hsz,hsz'⟩,by simpa using hcap,⟨c',T,lo,hi2,wset_get hbk,by rw [hcsz]; exact hfr,by rw [hcsz]; exact hcs⟩,?_⟩
   rw [if_pos rfl]
   subst hsz'
   have hee : (es.getD idx []).length = ri.sz:=by
    have h1 : es.getD idx [] = es[idx]:=by simp [List.getD,hidx]
    rw [h1]; exact hall _ (List.getElem_mem _)
   have hse : (splice (es.getD idx []) cc r.2).length = ri.sz:=by
    simp only [splice,List.length_append,List.length_take,List.length_drop]; omega
   refine ⟨RepY.flat.2 ⟨set_lengths hall hse,RepX.of_list (c:=c') (wset_get hbk) ?_⟩,hF⟩
   rw [flat_len (set_lengths hall hse),List.length_set,hc1,flatten_set es idx _ hall hse hidx]
   rw [show ri.o + idx * ri.sz + cc = ri.o + (idx * ri.sz + cc) from by omega,splice_window (by simp only [Array.length_toList]; omega) (by rw [hvl]; omega) (by simp only [Array.length_toList]; omega)]
   have hfl:=flat_len hall
   rw [splice_nest (sz:=ri.sz) (by rw [hfl]; omega) (by omega) (flat_get hall hidx)]
   exact (RepL.mono (hU.keeps hS.h) 2 _ _ hLv).splice (RepL.mono (hU.keeps hS.h) 2 _ _ hL2) _
  ·intro j hj z hz
   rw [get_set,if_neg (Ne.symm hj)] at hz
   exact ⟨hz,hS.h.sole hg hρ hn j hj z hz⟩
section
variable {P : Program} {ds : List (Option Tmp)} {σ : St} {o : Oper} {K : St → Prop} {Kp : AV → St → Prop}
theorem awGuard.sF {t : TypeId} {x y : Operand} {e : Eff} (hK : K (St.put ⟨σ.n,σ.env,e.hp,e.nx,σ.gl,σ.np,σ.df⟩ o.dst e.val)) (ho : o.op = .store t x y:=by exact rfl) (hg : o.guard = none:=by exact rfl)
  (h : estoreF P σ t x y = some e:=by (simp only [estoreF]; (simp only [go_sem,seval]; iterate 2 try (simp (disch:=omega) only [zq]; try simp only [go_sem,seval])); exact rfl)) (h2 : effOp P σ o.op = none:=by (simp only [go_sem,seval]; iterate 2 try (simp (disch:=omega) only [zq]; try simp only [go_sem,seval]))) (hd : dstOk σ.n o.dst = true:=by (simp only [go_sem,seval]; iterate 2 try (simp (disch:=omega) only [zq]; try simp only [go_sem,seval]))) (hob : e.ob:=by ((try (simp only [go_sem,seval]; iterate 2 try (simp (disch:=omega) only [zq]; try simp only [go_sem,seval]))); try (first | exact True.intro | omega | (simp only [zb]; omega) | (simp; done) | (simp; omega) | (and_intros <;> first | assumption | omega | (simp; done) | (simp; omega))))) : awGuard P ds o σ K Kp :=
 awGuard.effK e hg (by rw [ho]; simp only [pureOp]) h2 hd (.inl (by rw [ho]; simp only [isEff])) (fun m a hS=>estoreF_sound hS ho h hob) hK
end
end Aw
