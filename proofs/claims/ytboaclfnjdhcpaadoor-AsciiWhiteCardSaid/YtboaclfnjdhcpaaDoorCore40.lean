/- Rules of a calculus of walks: no condition of its own. -/
import Derived.Test.YtboaclfnjdhcpaaDoorCore39
set_option linter.unusedVariables false
namespace Aw
open Go
section
variable {P : Program} {m : Mem} {a : Act} {σ : St}
theorem repE_ones {b sz : Nat} (hsz : sz = 1) : ∀ {cs : List AV} {o : Nat},RepC m cs b o → RepE m (cs.map fun c=>[c]) b o sz
 | [],_,_=>by simp only [List.map_nil,RepE]
 | c :: cs,o,h=>by
  subst hsz
  simp only [RepC] at h
  simp only [List.map_cons,RepE,RepC]
  exact ⟨rfl,⟨h.1,h.2.1,trivial⟩,repE_ones rfl h.2.2⟩
theorem repC_take {b : Nat} : ∀ {cs : List AV} {o : Nat} (k : Nat),RepC m cs b o → RepC m (cs.take k) b o
 | _,_,0,_=>by simp only [List.take_zero,RepC]
 | [],_,k + 1,_=>by simp only [List.take_nil,RepC]
 | c :: cs,o,k + 1,h=>by
  simp only [RepC] at h
  simp only [List.take_succ_cons,RepC]
  exact ⟨h.1,h.2.1,repC_take k h.2.2⟩
theorem run_sliceArr {t e : TypeId} {i ei : TI} {n : Nat} {b o : Nat} {hi : Option Operand} {h : Int} {A : Option AV} (hti : tinfo P t = some i) (hk : i.k = .arr n e) (hei : tinfo P e = some ei)
  (hA : ∀ z,A = some z → ∃ u,hi.map a.eval = some u ∧ Rep m 0 z u) (hn : A = none → hi.map a.eval = none) (hb : abound n A = some h) (h0 : 0 ≤ h) (hle : h ≤ (n : Int)) (hpos : 0 < n) :
  (Instr.sliceAt t (.pointer (some ⟨b,o,none⟩)) none (hi.map a.eval) none).run P m.w = .ok (.slice (some ⟨b,o,none⟩) h.toNat n) m.w:=by
 obtain ⟨d,hd,hdk⟩:=run_underlying_ti (w:=m.w) hti
 rw [hk] at hdk
 have hd' : d = .array n e:=by
  cases d <;> simp only [tkOf,TK.arr.injEq,reduceCtorEq] at hdk
  rw [hdk.1,hdk.2]
 subst hd'
 have hsb:=run_sliceBounds (P:=P) (m:=m) (lo:=none) (hi:=A) (vl:=none) (vh:=hi.map a.eval) (l:=0) (h:=h) (len:=n) (cap:=n) (isSlice:=false) (w:=m.w) (fun _ q=>by cases q) (fun _=>rfl) hA hn rfl hb ⟨Int.le_refl _,h0⟩ hle (Nat.le_refl _)
 simp only [Instr.sliceAt,Instr.sureAddr,Sem.run_bind,hd,Result.andThen_ok,Sem.run_pure,hsb,run_sizeOf_ti hei]
 have : ¬ n = Int.toNat 0:=by simp; omega
 rw [if_neg this]
 simp [Addr.add]
end
section
variable {P : Program} {ds : List (Option Tmp)} {σ : St} {o : Oper} {K : St → Prop} {Kp : AV → St → Prop} {ob ob' : Prop}
theorem awGuard.slC {t e : TypeId} {x y : Operand} {i ei : TI} {n : Nat} {cs : List AV} {h : Int} {ky : IntKind} (hle : 0 ≤ h ∧ h ≤ (n : Int)) (hK : K (σ.put o.dst (.sl ((cs.take h.toNat).map fun c=>[c])))) (hg : o.guard = none:=by exact rfl) (ho : o.op = .slice t x none (some y) none:=by exact rfl)
  (hi : tinfo P t = some i:=by (simp only [go_sem,seval]; iterate 2 try (simp (disch:=omega) only [zq]; try simp only [go_sem,seval])); exact rfl) (hk : i.k = .arr n e:=by exact rfl) (hei : tinfo P e = some ei:=by (simp only [go_sem,seval]; iterate 2 try (simp (disch:=omega) only [zq]; try simp only [go_sem,seval])); exact rfl) (hsz : ei.sz = 1:=by exact rfl) (hpos : 0 < n:=by decide)
  (hx : evE σ x = some (ob,.cptr cs):=by (simp only [go_sem,seval]; iterate 2 try (simp (disch:=omega) only [zq]; try simp only [go_sem,seval])); exact rfl) (hcs : cs.length = n:=by exact rfl) (hob : ob:=by ((try (simp only [go_sem,seval]; iterate 2 try (simp (disch:=omega) only [zq]; try simp only [go_sem,seval]))); try (first | exact True.intro | omega | (simp only [zb]; omega) | (simp; done) | (simp; omega) | (and_intros <;> first | assumption | omega | (simp; done) | (simp; omega))))) (hy : evE σ y = some (ob',.int ky h):=by (simp only [go_sem,seval]; iterate 2 try (simp (disch:=omega) only [zq]; try simp only [go_sem,seval])); exact rfl) (hob' : ob':=by ((try (simp only [go_sem,seval]; iterate 2 try (simp (disch:=omega) only [zq]; try simp only [go_sem,seval]))); try (first | exact True.intro | omega | (simp only [zb]; omega) | (simp; done) | (simp; omega) | (and_intros <;> first | assumption | omega | (simp; done) | (simp; omega))))) (hd : dstOk σ.n o.dst = true:=by (simp only [go_sem,seval]; iterate 2 try (simp (disch:=omega) only [zq]; try simp only [go_sem,seval]))) (h1 : pureOp P σ true o.op = none:=by (try (simp only [go_sem,seval]; iterate 2 try (simp (disch:=omega) only [zq]; try simp only [go_sem,seval]))) <;> (try exact rfl)) : awGuard P ds o σ K Kp:=by
 refine awGuard.effK ⟨True,.sl ((cs.take h.toNat).map fun c=>[c]),σ.hp,σ.nx⟩ hg h1 (by rw [ho]; rfl) hd (.inr ⟨rfl,rfl⟩) (fun m a hS=>?_) hK (by rw [ho]; rfl)
 have hv:=evE_sound hS hx hob
 have hu:=evE_sound hS hy hob'
 simp only [Rep] at hv
 obtain ⟨b,off,hv,hC⟩:=hv
 refine ⟨.slice (some ⟨b,off,none⟩) h.toNat n,m,.inl ?_,.refl m,.refl m,hS.h,?_⟩
 ·simp only [execOp,ho]
  refine run_value ?_
  rw [hv]
  exact run_sliceArr (hi:=some y) (A:=some (.int ky h)) hi hk hei (fun z q=>by cases q; exact ⟨_,rfl,hu⟩) (fun q=>by cases q) rfl hle.1 hle.2 hpos
 ·simp only [Rep]
  refine .inr ⟨b,off,n,1,?_,?_,repE_ones rfl (repC_take _ hC)⟩
  ·congr 1
   simp
   omega
  ·simp
   omega
theorem awGuard.slF {t e : TypeId} {x : Operand} {i ei : TI} {n id : Nat} {T : TypeId} {cs : List AV} (hK : K (σ.put o.dst (.row id 0 n))) (hg : o.guard = none:=by exact rfl) (ho : o.op = .slice t x none none none:=by exact rfl)
  (hi : tinfo P t = some i:=by (simp only [go_sem,seval]; iterate 2 try (simp (disch:=omega) only [zq]; try simp only [go_sem,seval])); exact rfl) (hk : i.k = .arr n e:=by exact rfl) (hei : tinfo P e = some ei:=by (simp only [go_sem,seval]; iterate 2 try (simp (disch:=omega) only [zq]; try simp only [go_sem,seval])); exact rfl) (hpos : 0 < n:=by decide)
  (hx : evE σ x = some (ob,.ptr id 0):=by (simp only [go_sem,seval]; iterate 2 try (simp (disch:=omega) only [zq]; try simp only [go_sem,seval])); exact rfl) (hob : ob:=by ((try (simp only [go_sem,seval]; iterate 2 try (simp (disch:=omega) only [zq]; try simp only [go_sem,seval]))); try (first | exact True.intro | omega | (simp only [zb]; omega) | (simp; done) | (simp; omega) | (and_intros <;> first | assumption | omega | (simp; done) | (simp; omega))))) (hp : get σ.hp id = some (.tc T cs):=by (simp only [go_sem,seval]; iterate 2 try (simp (disch:=omega) only [zq]; try simp only [go_sem,seval])); exact rfl) (hcs : cs.length = n:=by exact rfl) (hd : dstOk σ.n o.dst = true:=by (simp only [go_sem,seval]; iterate 2 try (simp (disch:=omega) only [zq]; try simp only [go_sem,seval]))) (h1 : pureOp P σ true o.op = none:=by (try (simp only [go_sem,seval]; iterate 2 try (simp (disch:=omega) only [zq]; try simp only [go_sem,seval]))) <;> (try exact rfl)) : awGuard P ds o σ K Kp:=by
 refine awGuard.effK ⟨True,.row id 0 n,σ.hp,σ.nx⟩ hg h1 (by rw [ho]; rfl) hd (.inr ⟨rfl,rfl⟩) (fun m a hS=>?_) hK (by rw [ho]; rfl)
 have hv:=evE_sound hS hx hob
 simp only [Rep] at hv
 obtain ⟨_,ri,hρ,hv⟩:=hv
 obtain ⟨ri',hρ',hb⟩:=hS.h.blk id _ hp
 rw [hρ] at hρ'
 injection hρ' with hρ'
 subst hρ'
 obtain ⟨hn,_,_,c,_,_,ho0,hs1,hc1⟩:=hb
 refine ⟨.slice (some ⟨ri.b,0,none⟩) n n,m,.inl ?_,.refl m,.refl m,hS.h,?_⟩
 ·simp only [execOp,ho]
  refine run_value ?_
  rw [hv]
  have:=run_sliceArr (P:=P) (a:=a) (m:=m) (b:=ri.b) (o:=0) (hi:=none) (A:=none) (h:=(n : Int)) hi hk hei (fun z q=>by cases q) (fun _=>rfl) rfl (by omega) (by omega) hpos
  rw [Int.toNat_natCast] at this
  exact this
 ·simp only [Rep,true_and]
  refine ⟨ri,hρ,.inr (.inl ⟨hn,by omega,by omega,?_⟩)⟩
  rw [ho0,Nat.zero_mul,Nat.add_zero,Nat.sub_zero,hc1,hcs]
end
theorem St.le.untc {σ : St} (id : Nat) {T : TypeId} {cs : List AV} (h : get σ.hp id = some (.tc T cs)) : St.le ⟨σ.n,σ.env,set σ.hp id (.cells cs),σ.nx,σ.gl,σ.np,σ.df⟩ σ:=by
 intro m a hS
 refine ⟨m,rfl,.refl m,⟨⟨?_,?_,hS.h.fresh,hS.h.Fold,hS.h.Pold⟩,hS.n,hS.defers,hS.env,hS.gl,hS.np⟩⟩
 ·intro j y hy
  rw [get_set] at hy
  split at hy
  ·rename_i e
   subst e
   injection hy with hy
   subst hy
   obtain ⟨ri,hr,g1,g2,g3,c,g4,g5,_⟩:=hS.h.blk id _ h
   exact ⟨ri,hr,g1,g2,g3,c,T,g4,g5⟩
  ·exact hS.h.blk j y hy
 ·intro j j' y y' ri ri' hy hy' hr hr' hjj hn hn'
  have key : ∀ k z,get (set σ.hp id (.cells cs)) k = some z → ∃ z',get σ.hp k = some z':=by
   intro k z hz
   rw [get_set] at hz
   split at hz
   ·rename_i e; subst e; exact ⟨_,h⟩
   ·exact ⟨z,hz⟩
  obtain ⟨z,hz⟩:=key j y hy
  obtain ⟨z',hz'⟩:=key j' y' hy'
  exact hS.h.apart j j' z z' ri ri' hz hz' hr hr' hjj hn hn'
def viewN (Q : AX → St → Prop) (x : AX) (σ' : St) : Prop :=
 match x with
 | .panic y=>Q (.panic y) σ'
 | .exit i=>Q (.exit i) σ'
 | x=>∃ σ2,St.le σ2 σ' ∧ Q x σ2
theorem viewN_pan (Q : AX → St → Prop) (y : AV) (σ' : St) : viewN Q (.panic y) σ' = Q (.panic y) σ':=rfl
theorem AW.fin3 {P : Program} {c : Code} {σ : St} {Q : AX → St → Prop} (h : AW P c σ (viewN Q)) : AW P c σ Q:=by
 intro m a hS
 refine wp_mono (h m a hS) ?_
 rintro e a' w' ⟨m',σ',ax,rfl,hle,hS',hex,hq⟩
 cases ax with
 | panic y=>exact ⟨m',σ',.panic y,rfl,hle,hS',hex,hq⟩
 | exit i=>exact ⟨m',σ',.exit i,rfl,hle,hS',hex,hq⟩
 | normal =>
  obtain ⟨σ2,hl2,hq⟩:=hq
  obtain ⟨m2,e2,l2,s2⟩:=hl2 m' a' hS'
  exact ⟨m2,σ2,.normal,e2,hle.trans l2,s2,hex,hq⟩
 | ret =>
  obtain ⟨σ2,hl2,hq⟩:=hq
  obtain ⟨m2,e2,l2,s2⟩:=hl2 m' a' hS'
  exact ⟨m2,σ2,.ret,e2,hle.trans l2,s2,hex,hq⟩
end Aw
