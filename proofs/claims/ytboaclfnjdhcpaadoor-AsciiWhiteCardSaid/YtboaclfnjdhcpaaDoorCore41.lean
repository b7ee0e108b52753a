/- Rules of a calculus of walks: no condition of its own. -/
import Derived.Test.YtboaclfnjdhcpaaDoorCore40
namespace Aw
open Go
theorem AWT.vw {B : Bs} {r : Option Nat} {Θ : Mem → Prop} [Lasts Θ] {P : Program} {σ : St} {Q : AX → St → Prop} {c : Code} {q : Prop} (l : List Nat) (env' : List (Nat × AV)) (hp' : List (Nat × ABlk)) (hq : q) (k : AWT B r Θ P c ⟨σ.n,env',hp',l.length,σ.gl,σ.np,σ.df⟩ Q) (hdf : σ.df = renDf (pick l σ.nx) σ.df:=by exact rfl)
  (hpre : ∀ i,i < σ.np → nth l i = some i:=by intro i hi; (try dsimp only at hi); rcases i with _ | _ | _ | _ | _ | i <;> first | rfl | omega) (hnd : l.Nodup:=by decide)
  (henv : viewEnv (pick l σ.nx) σ.env env':=by (try dsimp only) <;> (try (simp only [go_sem,seval]; iterate 2 try (simp (disch:=omega) only [zq]; try simp only [go_sem,seval]))) <;> (try (and_intros <;> first | exact Less.refl _ | trivial | (refine Less.int ?_; omega) | (refine Less.row ?_; first | omega | (simp; done) | (simp; omega)) | (refine Less.of_eq ?_; simp; done)))) (hhp : q → viewHp (pick l σ.nx) l.length σ.hp hp':=by intro hq; (try dsimp only) <;> (try (simp only [go_sem,seval]; iterate 2 try (simp (disch:=omega) only [zq]; try simp only [go_sem,seval]))) <;> exact hq) : AWT B r Θ P c σ Q :=
 AWT.pre (σ':=⟨σ.n,env',hp',l.length,σ.gl,σ.np,σ.df⟩) (St.le.view l rfl rfl rfl hdf rfl hpre hnd henv (hhp hq)) k
section
variable {B : Bs} {r : Option Nat} {Θ : Mem → Prop} {P : Program} {σ : St} {o : Oper} {ops : Array Oper} {K : St → Prop} {Kp : AV → St → Prop} {ob ob' : Prop} {ys zs xs : List AV} {hp0 hp1 hp2 : List (Nat × ABlk)} {n1 n2 c i : Nat}
end
end Aw

namespace Aw
open Go
section
variable {P : Program} {ds : List (Option Tmp)} {σ : St} {o : Oper} {K : St → Prop} {Kp : AV → St → Prop} {ob : Prop}
theorem awGuard.sl3c {x lo hi mx : Operand} {t e : TypeId} {i ei : TI} {es : List (List AV)} {l h k : Int} {k1 k2 k3 : IntKind} {b1 b2 b3 : Prop} (hg : o.guard = none) (ho : o.op = .slice t x (some lo) (some hi) (some mx)) (hi' : tinfo P t = some i) (hk : i.k = .slice e) (hei : tinfo P e = some ei)
  (hx : evE σ x = some (ob,.sl es)) (hob : ob) (hl : evE σ lo = some (b1,.int k1 l)) (hh : evE σ hi = some (b2,.int k2 h)) (hm : evE σ mx = some (b3,.int k3 k)) (h1 : b1) (h2 : b2) (h3 : b3) (hall : ∀ c ∈ es,c.length = ei.sz) (hle : 0 ≤ l ∧ l ≤ h ∧ h ≤ k ∧ k ≤ (es.length : Int))
  (hd : dstOk σ.n o.dst = true) (hK : K (σ.put o.dst (.sl ((es.take h.toNat).drop l.toNat)))) (hp1 : pureOp P σ true o.op = none) (hp2 : effOp P σ o.op = none) : awGuard P ds o σ K Kp:=by
 refine awGuard.effK ⟨True,.sl ((es.take h.toNat).drop l.toNat),σ.hp,σ.nx⟩ hg hp1 hp2 hd (.inr ⟨rfl,rfl⟩) ?_ hK
 intro m a hS
 have hv:=evE_sound hS hx hob
 have hlv:=evE_sound hS hl h1
 have hhv:=evE_sound hS hh h2
 have hmv:=evE_sound hS hm h3
 simp only [Rep] at hv hlv hhv hmv
 have b2 : ∀ (v : Value) (n : Int) (y : Nat) (c : BoundsCode) (k : IntKind),v = .int k n → 0 ≤ n → n ≤ y → (Instr.sliceBound v y c).run P m.w = .ok n.toNat m.w:=by
  rintro _ n y c k rfl h0 h1
  simp [Instr.sliceBound,asIntOf_run,h0,h1]
 have hsa : ∀ A len cap,(Instr.sliceAt t (.slice A len cap) (some (a.eval lo)) (some (a.eval hi)) (some (a.eval mx))).run P m.w = (Instr.slice t (.slice A len cap) (some (a.eval lo)) (some (a.eval hi)) (some (a.eval mx))).run P m.w:=by
  intro A len cap
  simp only [Instr.sliceAt,Sem.run_bind,run_slice_ti hi' hk,Result.andThen_ok]
 have hbs : ∀ len cap : Nat,es.length ≤ len → len ≤ cap → (Instr.sliceBounds true len cap (some (a.eval lo)) (some (a.eval hi)) (some (a.eval mx))).run P m.w = .ok (l.toNat,h.toNat,k.toNat) m.w:=by
  intro len cap hlen hcap
  simp [Instr.sliceBounds,b2 (a.eval mx) k cap _ k3 hmv (by omega) (by omega),b2 (a.eval hi) h k.toNat _ k2 hhv (by omega) (by omega),b2 (a.eval lo) l h.toNat _ k1 hlv (by omega) (by omega)]
 obtain ⟨r,hr,hrep⟩ : ∃ r,(Instr.sliceAt t (a.eval x) (some (a.eval lo)) (some (a.eval hi)) (some (a.eval mx))).run P m.w = .ok r m.w ∧ Rep m 0 (.sl ((es.take h.toNat).drop l.toNat)) r:=by
  rcases hv with ⟨hes,A,c,hv⟩ | ⟨b,p,c,sz,hv,hcap,hE⟩
  ·rw [hv,hsa]
   have hb:=hbs 0 c (by rw [hes]; exact Nat.le_refl 0) (Nat.zero_le c)
   refine ⟨_,by simp only [Instr.slice,Sem.run_bind,run_slice_ti hi' hk,Result.andThen_ok,hb,run_sizeOf_ti hei,Sem.run_pure]; rfl,?_⟩
   simp only [Rep]
   have hz : h.toNat - l.toNat = 0:=by rw [hes] at hle; simp at hle; omega
   exact .inl ⟨by rw [hes]; simp,_,_,congrArg (fun n=>Value.slice _ n _) hz⟩
  ·rw [hv,hsa]
   have hb:=hbs es.length c (Nat.le_refl _) hcap
   refine ⟨_,by simp only [Instr.slice,Sem.run_bind,run_slice_ti hi' hk,Result.andThen_ok,hb,run_sizeOf_ti hei,Sem.run_pure]; rfl,?_⟩
   simp only [Rep]
   by_cases hlen : (es.take h.toNat).drop l.toNat = []
   ·have : h.toNat - l.toNat = 0:=by
     have:=congrArg List.length hlen
     simp at this
     omega
    exact .inl ⟨hlen,_,_,congrArg (fun n=>Value.slice _ n _) this⟩
   ·have hlt : l.toNat < h.toNat:=by
     rcases Nat.lt_or_ge l.toNat h.toNat with h | h
     ·exact h
     ·exfalso; apply hlen; apply List.drop_eq_nil_of_le; simp; omega
    have hsz : sz = ei.sz:=by
     have hlt' : l.toNat < es.length:=by omega
     exact (hE.at _ hlt').1.symm.trans (hall _ (List.getElem_mem hlt'))
    subst hsz
    refine .inr ⟨b,p + l.toNat * ei.sz,k.toNat - l.toNat,ei.sz,?_,by simp only [List.length_drop,List.length_take]; omega,(hE.take _).drop _⟩
    rw [if_neg (by omega)]
    simp only [Option.map_some,addr_add,List.length_drop,List.length_take]
    congr 1
    omega
 refine ⟨r,m,.inl ?_,.refl m,.refl m,hS.h,hrep⟩
 simp only [execOp,ho,Option.map_some]
 exact run_value hr
theorem awGuard.s3c {x lo hi mx : Operand} {t e : TypeId} {i ei : TI} {es : List (List AV)} {l h k : Int} {k1 k2 k3 : IntKind} {b1 b2 b3 : Prop} (hle : 0 ≤ l ∧ l ≤ h ∧ h ≤ k ∧ k ≤ (es.length : Int)) (hall : ∀ c ∈ es,c.length = ei.sz) (hK : K (σ.put o.dst (.sl ((es.take h.toNat).drop l.toNat)))) (hg : o.guard = none:=by exact rfl) (ho : o.op = .slice t x (some lo) (some hi) (some mx):=by exact rfl) (hi' : tinfo P t = some i:=by (simp only [go_sem,seval]; iterate 2 try (simp (disch:=omega) only [zq]; try simp only [go_sem,seval])); exact rfl) (hk : i.k = .slice e:=by exact rfl) (hei : tinfo P e = some ei:=by (simp only [go_sem,seval]; iterate 2 try (simp (disch:=omega) only [zq]; try simp only [go_sem,seval])); exact rfl)
  (hx : evE σ x = some (ob,.sl es):=by (simp only [go_sem,seval]; iterate 2 try (simp (disch:=omega) only [zq]; try simp only [go_sem,seval])); exact rfl) (hob : ob:=by ((try (simp only [go_sem,seval]; iterate 2 try (simp (disch:=omega) only [zq]; try simp only [go_sem,seval]))); try (first | exact True.intro | omega | (simp only [zb]; omega) | (simp; done) | (simp; omega) | (and_intros <;> first | assumption | omega | (simp; done) | (simp; omega))))) (hl : evE σ lo = some (b1,.int k1 l):=by (simp only [go_sem,seval]; iterate 2 try (simp (disch:=omega) only [zq]; try simp only [go_sem,seval])); exact rfl) (hh : evE σ hi = some (b2,.int k2 h):=by (simp only [go_sem,seval]; iterate 2 try (simp (disch:=omega) only [zq]; try simp only [go_sem,seval])); exact rfl) (hm : evE σ mx = some (b3,.int k3 k):=by (simp only [go_sem,seval]; iterate 2 try (simp (disch:=omega) only [zq]; try simp only [go_sem,seval])); exact rfl) (h1 : b1:=by ((try (simp only [go_sem,seval]; iterate 2 try (simp (disch:=omega) only [zq]; try simp only [go_sem,seval]))); try (first | exact True.intro | omega | (simp only [zb]; omega) | (simp; done) | (simp; omega) | (and_intros <;> first | assumption | omega | (simp; done) | (simp; omega))))) (h2 : b2:=by ((try (simp only [go_sem,seval]; iterate 2 try (simp (disch:=omega) only [zq]; try simp only [go_sem,seval]))); try (first | exact True.intro | omega | (simp only [zb]; omega) | (simp; done) | (simp; omega) | (and_intros <;> first | assumption | omega | (simp; done) | (simp; omega))))) (h3 : b3:=by ((try (simp only [go_sem,seval]; iterate 2 try (simp (disch:=omega) only [zq]; try simp only [go_sem,seval]))); try (first | exact True.intro | omega | (simp only [zb]; omega) | (simp; done) | (simp; omega) | (and_intros <;> first | assumption | omega | (simp; done) | (simp; omega)))))
  (hd : dstOk σ.n o.dst = true:=by (simp only [go_sem,seval]; iterate 2 try (simp (disch:=omega) only [zq]; try simp only [go_sem,seval]))) (hp1 : pureOp P σ true o.op = none:=by (try (simp only [go_sem,seval]; iterate 2 try (simp (disch:=omega) only [zq]; try simp only [go_sem,seval]))) <;> (try exact rfl)) (hp2 : effOp P σ o.op = none:=by (try (simp only [go_sem,seval]; iterate 2 try (simp (disch:=omega) only [zq]; try simp only [go_sem,seval]))) <;> (try exact rfl)) : awGuard P ds o σ K Kp :=
 awGuard.sl3c hg ho hi' hk hei hx hob hl hh hm h1 h2 h3 hall hle hd hK hp1 hp2
end
section
variable {B : Bs} {r : Option Nat} {Θ : Mem → Prop} {P : Program} {σ : St} {o : Oper} {rest : List Oper} {ops : Array Oper} {K : St → Prop} {Kp : AV → St → Prop} {ob ob' : Prop} {ys zs xs : List AV} {hp0 hp1 : List (Nat × ABlk)} {n1 : Nat}
end
end Aw
