/- Rules of a calculus of walks: no condition of its own. -/
import Derived.Test.YtboaclfnjdhcpaaDoorCore45
set_option linter.unusedVariables false
namespace Aw
open Go
section
variable {P : Program} {ds : List (Option Tmp)} {σ : St} {o : Oper} {K : St → Prop} {Kp : AV → St → Prop} {ob ob' : Prop}
theorem flat_bytes (l : List UInt8) : (bytesAV l).flatten = l.map fun b=>AV.int .u8 (b.toNat : Int):=by
 induction l with
 | nil=>rfl
 | cons c l ih=>simp only [bytesAV,List.map_cons,List.flatten_cons] at ih ⊢; rw [ih] <;> rfl
theorem awGuard.cpT {x y : Operand} {t u e : TypeId} {i ei : TI} {id n : Nat} {T : TypeId} {cs : List AV} {l : List UInt8} {c : Call} (hle : l.length ≤ n) (hK : K (St.put ⟨σ.n,σ.env,set σ.hp id (.tc T (splice cs 0 (bytesAV l).flatten)),σ.nx,σ.gl,σ.np,σ.df⟩ o.dst (.int .i64 (l.length : Nat))))
  (hg : o.guard = none:=by exact rfl) (ho : o.op = .call c:=by exact rfl) (hc : c.callee = .builtin .copy:=by exact rfl) (ha : c.args = #[x,y]:=by exact rfl) (ht : c.argTypes = #[t,u]:=by exact rfl) (hi : tinfo P t = some i:=by (simp only [go_sem,seval]; iterate 2 try (simp (disch:=omega) only [zq]; try simp only [go_sem,seval])); exact rfl) (hk : i.k = .slice e:=by exact rfl)
  (hei : tinfo P e = some ei:=by (simp only [go_sem,seval]; iterate 2 try (simp (disch:=omega) only [zq]; try simp only [go_sem,seval])); exact rfl) (hsz : ei.sz = 1:=by exact rfl) (hx : evE σ x = some (ob,.row id 0 n):=by (simp only [go_sem,seval]; iterate 2 try (simp (disch:=omega) only [zq]; try simp only [go_sem,seval])); exact rfl) (hob : ob:=by ((try (simp only [go_sem,seval]; iterate 2 try (simp (disch:=omega) only [zq]; try simp only [go_sem,seval]))); try (first | exact True.intro | omega | (simp only [zb]; omega) | (simp; done) | (simp; omega) | (and_intros <;> first | assumption | omega | (simp; done) | (simp; omega))))) (hp : get σ.hp id = some (.tc T cs):=by (simp only [go_sem,seval]; iterate 2 try (simp (disch:=omega) only [zq]; try simp only [go_sem,seval])); exact rfl) (hcs : cs.length = n:=by exact rfl)
  (hy : evE σ y = some (ob',.sl (bytesAV l)):=by (simp only [go_sem,seval]; iterate 2 try (simp (disch:=omega) only [zq]; try simp only [go_sem,seval])); exact rfl) (hob' : ob':=by ((try (simp only [go_sem,seval]; iterate 2 try (simp (disch:=omega) only [zq]; try simp only [go_sem,seval]))); try (first | exact True.intro | omega | (simp only [zb]; omega) | (simp; done) | (simp; omega) | (and_intros <;> first | assumption | omega | (simp; done) | (simp; omega))))) (hd : dstOk σ.n o.dst = true:=by (simp only [go_sem,seval]; iterate 2 try (simp (disch:=omega) only [zq]; try simp only [go_sem,seval]))) (h1 : pureOp P σ true o.op = none:=by (try (simp only [go_sem,seval]; iterate 2 try (simp (disch:=omega) only [zq]; try simp only [go_sem,seval]))) <;> (try exact rfl)) (h2 : effOp P σ o.op = none:=by (try (simp only [go_sem,seval]; iterate 2 try (simp (disch:=omega) only [zq]; try simp only [go_sem,seval]))) <;> (try exact rfl)) : awGuard P ds o σ K Kp:=by
 refine awGuard.effK ⟨True,.int .i64 (l.length : Nat),set σ.hp id (.tc T (splice cs 0 (bytesAV l).flatten)),σ.nx⟩ hg h1 h2 hd (.inl (by rw [ho]; simp only [isEff,hc])) (fun m a hS=>?_) hK
 have hv:=evE_sound hS hx hob
 have hu:=evE_sound hS hy hob'
 simp only [Rep] at hv
 obtain ⟨_,ri,hρ,hrow⟩:=hv
 obtain ⟨ri',hρ',hb⟩:=hS.h.blk id _ hp
 rw [hρ] at hρ'
 injection hρ' with hρ'
 subst hρ'
 obtain ⟨hn,hP,hF,cc,hbk,hL,ho0,hs1,hc1⟩:=hb
 obtain ⟨g1,g2,vs,g3,g4,g5⟩:=asrc_sound (P:=P) hS.h (sz:=1) (x:=.sl (bytesAV l)) (ob:=∀ e ∈ bytesAV l,okRow 1 e = true) (es:=bytesAV l) rfl (fun e he=>by
  simp only [bytesAV,List.mem_map] at he
  obtain ⟨b,_,rfl⟩:=he
  rfl) hu
 rw [bB_len] at g2 g5
 have hvl : vs.length = l.length:=by rw [g3.length,flat_bytes,List.length_map]
 have hcl : cc.size = n:=by rw [← hcs]; simpa using hL.length
 obtain ⟨callee,args,argTypes⟩:=c
 simp only at hc ha ht
 subst hc ha ht
 have hexec : ∀ (A : Option Addr) (cp : Nat) (w' : World),a.eval x = .slice A n cp → (∀ a',A = some a' → (storeCells a' vs).run P m.w = .ok () w') → (A = none → w' = m.w) → (execOp a.eval o).run P m.w = .ok (.value (.int .i64 (l.length : Nat))) w':=by
  intro A cp w' hA hw1 hw2
  simp only [execOp,ho]
  show (do pure (Next.value (← Builtin.copy_ #[t,u] o.type ((#[x,y] : Array Operand).map a.eval))) : Sem Next).run P m.w = _
  have e3 : (#[x,y] : Array Operand).map a.eval = #[a.eval x,a.eval y]:=by simp
  rw [e3,hA]
  refine run_value ?_
  have e1 : (#[t,u] : Array TypeId)[0]? = some t:=rfl
  have e2 : (#[Value.slice A n cp,a.eval y] : Array Value)[0]? = some (.slice A n cp):=rfl
  have e3 : (#[Value.slice A n cp,a.eval y] : Array Value)[1]? = some (a.eval y):=rfl
  have hmin : Nat.min l.length n = l.length:=Nat.min_eq_left hle
  have hfc : (Builtin.firstCells ei.sz l.length (a.eval y)).run P m.w = .ok vs.toArray m.w:=by rw [hsz,g5 m.w rfl]
  cases A with
  | none =>
   have:=hw2 rfl
   subst this
   simp only [Builtin.copy_,e1,e2,e3,Sem.run_bind,run_slice_ti hi hk,Result.andThen_ok,g2,run_sizeOf_ti hei,hmin,hfc,Sem.run_pure]
   rfl
  | some a' =>
   simp only [Builtin.copy_,e1,e2,e3,Sem.run_bind,run_slice_ti hi hk,Result.andThen_ok,g2,run_sizeOf_ti hei,hmin,hfc,hw1 a' rfl,Sem.run_pure]
   rfl
 have hsame : n = 0 → vs = [] ∧ SimH m (set σ.hp id (.tc T (splice cs 0 (bytesAV l).flatten))) σ.nx:=by
  intro h0
  have hl0 : l = []:=List.length_eq_zero_iff.1 (by omega)
  subst hl0
  refine ⟨List.length_eq_zero_iff.1 hvl,SimH.congr (fun j=>?_) hS.h⟩
  have : splice cs 0 (bytesAV []).flatten = cs:=by simp [splice,bytesAV]
  rw [this,get_set]
  split
  ·rename_i q; subst q; exact hp.symm
  ·rfl
 rcases hrow with ⟨hn',_,_,hv⟩ | ⟨_,hcap,hlt,hv⟩ | ⟨_,h0,h0',A',hv⟩
 ·rw [hn] at hn'; cases hn'
 ·rw [ho0,Nat.zero_mul,Nat.add_zero,Nat.sub_zero] at hv
  obtain ⟨c',k1,k2⟩:=run_storeCells (P:=P) vs 0 0 m.w cc hbk (by intro j _ hj; omega) (by omega) g4
  have hU : Upd m { m with w:=wset m.w ri.b (.cells c' T (0,0)) } ri.b:=Upd.set hS.h hP (fun o h=>(hF o h).elim)
  refine ⟨_,{ m with w:=wset m.w ri.b (.cells c' T (0,0)) },.inl (hexec _ _ _ hv (fun a' q=>by injection q with q; subst q; exact k2) (fun q=>by cases q)),hU.le hS.h,hU.keeps hS.h,?_,by simp only [Rep]⟩
  refine hS.h.upd hU (k:=id) (ri:=ri) (blk:=.tc T (splice cs 0 (bytesAV l).flatten)) hρ ?_ (fun _=>rfl) (by rw [get_set,if_pos rfl]) ?_ hS.h.fresh
  ·refine ⟨hn,hP,hF,c',wset_get hbk,?_,ho0,hs1,hc1.trans (splice_len (by rw [flat_bytes,List.length_map]; omega)).symm⟩
   rw [k1,Nat.add_zero]
   exact (RepL.mono (hU.keeps hS.h) 0 _ _ hL).splice (RepL.mono (hU.keeps hS.h) 0 _ _ (RepL.down (Nat.zero_le 2) _ _ g3)) 0
  ·intro j hj z hz
   rw [get_set,if_neg (Ne.symm hj)] at hz
   exact ⟨hz,hS.h.sole hp hρ hn j hj z hz⟩
 ·obtain ⟨h3,h4⟩:=hsame (by omega)
  subst h3
  have hn0 : n = 0:=by omega
  exact ⟨_,m,.inl (hexec _ _ _ (by rw [hv,hn0]) (fun a' _=>by simp [storeCells]) (fun q=>by cases q)),.refl m,.refl m,h4,by simp only [Rep]⟩
end
theorem EqS.of8 {P : Program} {t : TypeId} {l1 l2 : List Int} (hk : P.keyTypeAt 3 t = true) (hgt : P.eqGuardType P.depth t = false)
  (hf : ∀ l : List Int,l.length = l1.length → (Value.agg (l.map (Value.int .u8)).toArray).formed P t = true) (hL : ∀ l : List Int,l.length = l1.length → (∀ x ∈ l,(Lit.int .u8 x).wf = true) → P.keyLits 3 t (l.map (Value.int .u8)) = some (l.map (Lit.int .u8)))
  (hl : l2.length = l1.length) (h1 : ∀ x ∈ l1,(Lit.int .u8 x).wf = true) (h2 : ∀ x ∈ l2,(Lit.int .u8 x).wf = true) : EqS P t (.agg (l1.map (AV.int .u8))) (.agg (l2.map (AV.int .u8))) (decide (l1 = l2)):=by
 have key : ∀ (m : Mem) (l : List Int) (vs : List Value),RepL m 0 (l.map (AV.int .u8)) vs → vs = l.map (Value.int .u8):=by
  intro m l
  induction l with
  | nil=>intro vs h; simpa [RepL] using h
  | cons a l ih =>
   intro vs h
   simp only [List.map_cons,RepL,Rep] at h
   obtain ⟨v,r,rfl,rfl,hr⟩:=h
   rw [ih r hr]
   rfl
 intro m v u x y hv hu'
 simp only [Rep] at hv hu'
 obtain ⟨vs,rfl,hvs⟩:=hv
 obtain ⟨us,rfl,hus⟩:=hu'
 have e1:=key m l1 _ hvs
 have e2:=key m l2 _ hus
 have e1' : vs = (l1.map (Value.int .u8)).toArray:=Array.ext' e1
 have e2' : us = (l2.map (Value.int .u8)).toArray:=Array.ext' e2
 subst e1' e2'
 obtain ⟨r,hr,hiff⟩:=run_equalIn_deep (10000 - 3) 3 t hk m.w 3 3 _ _ _ _ (hf l1 rfl) (hf l2 hl) (hL l1 rfl h1) (hL l2 hl h2)
 have hrr : r = decide (l1 = l2):=by
  rw [Bool.eq_iff_iff,hiff,decide_eq_true_iff]
  constructor
  ·intro h
   have:=congrArg (List.map fun q : Lit=>match q with | .int _ n=>n | _=>0) h
   simpa [List.map_map,Function.comp_def] using this
  ·rintro rfl; rfl
 subst hrr
 have hG : (eqGuard .eql t x y (.agg (l1.map (Value.int .u8)).toArray) (.agg (l2.map (Value.int .u8)).toArray)).run P m.w = .ok () m.w:=by
  have hp : (program : Sem Program).run P m.w = .ok P m.w:=rfl
  simp only [eqGuard,Bool.not_true,Bool.false_eq_true,if_false]
  rw [run_bind hp,run_bind hp,hgt]
  rfl
 rw [run_bind hG]
 show (do pure (Value.bool (← Op.equal t _ _)) : Sem Value).run P m.w = _
 rw [run_bind (show (Op.equal t _ _).run P m.w = _ from hr)]
 rfl
end Aw
