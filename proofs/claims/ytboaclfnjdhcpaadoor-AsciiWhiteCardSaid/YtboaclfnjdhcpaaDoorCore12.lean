/- Rules of a calculus of walks: no condition of its own. -/
import Derived.Test.YtboaclfnjdhcpaaDoorCore11
import Derived.Lib.Overlaps
import Derived.IntWalk
namespace Aw
open Go
attribute [go_sem] Option.isNone_none Option.isNone_some Option.isSome_some Option.isSome_none
section
variable {P : Program} {ds : List (Option Tmp)} {fn : Func} {σ σ' : St} {Q : AX → St → Prop} {R : AE → Prop} {y : Code} {id : Nat} {ops : Array Oper} {o : Oper} {K : St → Prop} {Kp : AV → St → Prop} {ob ob' : Prop} {f : FuncId} {ys xs zs : List AV} {l : List Oper} {hp0 hp1 : List (Nat × ABlk)} {n1 : Nat} {u u1 : DM}
theorem AW.df (hk : AW P y (St.put ⟨σ'.n,σ'.env,σ'.hp,σ'.nx,σ'.gl,σ'.np,(f,ys) :: σ'.df⟩ o.dst (.raw undef)) Q) (hops : splitLast ops.toList = some (l,o):=by (simp only [go_sem,seval]; iterate 2 try (simp (disch:=omega) only [zq]; try simp only [go_sem,seval])); exact rfl) (h : runOps P (ops.toList.map (·.dst)) l σ = (ob,[],σ'):=by (simp only [go_sem,seval]; iterate 2 try (simp (disch:=omega) only [zq]; try simp only [go_sem,seval])); exact rfl)
  (hd : adefer σ' o.op = some (ob',f,ys):=by (simp only [go_sem,seval]; iterate 2 try (simp (disch:=omega) only [zq]; try simp only [go_sem,seval])); exact rfl) (hg : o.guard = none:=by exact rfl) (hdst : dstOk σ'.n o.dst = true:=by (simp only [go_sem,seval]; iterate 2 try (simp (disch:=omega) only [zq]; try simp only [go_sem,seval]))) (hob : ob:=by ((try (simp only [go_sem,seval]; iterate 2 try (simp (disch:=omega) only [zq]; try simp only [go_sem,seval]))); try (first | exact True.intro | omega | (simp only [zb]; omega) | (simp; done) | (simp; omega) | (and_intros <;> first | assumption | omega | (simp; done) | (simp; omega))))) (hob' : ob':=by ((try (simp only [go_sem,seval]; iterate 2 try (simp (disch:=omega) only [zq]; try simp only [go_sem,seval]))); try (first | exact True.intro | omega | (simp only [zb]; omega) | (simp; done) | (simp; omega) | (and_intros <;> first | assumption | omega | (simp; done) | (simp; omega))))) : AW P (.seq (.region id ops false) y) σ Q:=AW.seqDefer hops h hd hg hdst hob hob' hk
theorem finD_pan {x y : AV} (hl : LeaveS P fn (.pan y) ⟨σ.n,σ.env,frzs σ.hp (rids σ.hp 9 x),σ.nx,σ.gl,σ.np,σ.df⟩ R) (h : closeR σ x = some (ob,y):=by (simp only [go_sem,seval]; iterate 2 try (simp (disch:=omega) only [zq]; try simp only [go_sem,seval])); exact rfl) (hob : ob:=by ((try (simp only [go_sem,seval]; iterate 2 try (simp (disch:=omega) only [zq]; try simp only [go_sem,seval]))); try (first | exact True.intro | omega | (simp only [zb]; omega) | (simp; done) | (simp; omega) | (and_intros <;> first | assumption | omega | (simp; done) | (simp; omega))))) : finD P fn R (.panic x) σ:=⟨ob,y,h,hob,hl⟩
theorem LeaveS.c1 {r : List (FuncId × List AV)} (L : List Nat) (hc : FnD P σ.gl f xs hp0 L.length u fun u' h n=>u' = u1 ∧ h = hp1 ∧ n = n1)
  (hK : LeaveS P fn u1 ⟨σ.n,σ.env,appHp (dels σ.hp L) (renHp (bk L σ.nx) hp1),σ.nx + (n1 - L.length),σ.gl,σ.np,r⟩ R) (hdf : σ.df = (f,ys) :: r:=by exact rfl)
  (hz : mapO (fz σ.hp 9) ys = some (ob',zs):=by (simp only [go_sem,seval]; iterate 2 try (simp (disch:=omega) only [zq]; try simp only [go_sem,seval])); exact rfl) (hob' : ob':=by ((try (simp only [go_sem,seval]; iterate 2 try (simp (disch:=omega) only [zq]; try simp only [go_sem,seval]))); try (first | exact True.intro | omega | (simp only [zb]; omega) | (simp; done) | (simp; omega) | (and_intros <;> first | assumption | omega | (simp; done) | (simp; omega))))) (hL : L.all (fun id=>(get σ.hp id).isSome) = true:=by (simp only [go_sem,seval]; iterate 2 try (simp (disch:=omega) only [zq]; try simp only [go_sem,seval]))) (hnd : L.Nodup:=by decide) (hhp : viewHp (Aw.pick L σ.nx) L.length σ.hp hp0:=by (try (simp only [go_sem,seval]; iterate 2 try (simp (disch:=omega) only [zq]; try simp only [go_sem,seval]))) <;> (try (first | rfl | trivial | (and_intros <;> first | rfl | trivial))))
  (hxs : renL (Aw.pick L σ.nx) xs = zs:=by (try (simp only [go_sem,seval]; iterate 2 try (simp (disch:=omega) only [zq]; try simp only [go_sem,seval]))) <;> (try rfl)) (hb : backOk L hp1 n1 = true:=by (simp only [go_sem,seval]; iterate 2 try (simp (disch:=omega) only [zq]; try simp only [go_sem,seval]))) : LeaveS P fn u σ R :=
 LeaveS.cons hdf hz hob' hL hnd hhp hxs hc fun _ _ _ ⟨h1,h2,h3⟩=>by subst h1 h2 h3; exact ⟨hb,hK⟩
theorem LeaveS.rt {rs : Array ResultVar} {q : Prop} (hrs : fn.results = rs) (hq : q) (h : finRet P rs.toList R σ = q:=by (try (simp only [go_sem,seval]; iterate 2 try (simp (disch:=omega) only [zq]; try simp only [go_sem,seval]))); exact rfl) : LeaveS P fn .ret σ R:=LeaveS.ret (by rw [hrs,h]; exact hq)
theorem awGuard.cH {y : AV} (L : List Nat) (hc : FnH P σ.gl f xs hp0 L.length fun r h n=>r = .ret y ∧ h = hp1 ∧ n = n1) (hK : K (St.put (backSt σ L hp1 n1) o.dst (ren (bk L σ.nx) y))) (hg : o.guard = none:=by exact rfl)
  (h : acall σ o.op = some (ob,f,ys):=by (simp only [go_sem,seval]; iterate 2 try (simp (disch:=omega) only [zq]; try simp only [go_sem,seval])); exact rfl) (hz : mapO (fz σ.hp 9) ys = some (ob',zs):=by (simp only [go_sem,seval]; iterate 2 try (simp (disch:=omega) only [zq]; try simp only [go_sem,seval])); exact rfl) (hd : dstOk σ.n o.dst = true:=by (simp only [go_sem,seval]; iterate 2 try (simp (disch:=omega) only [zq]; try simp only [go_sem,seval]))) (hL : L.all (fun id=>(get σ.hp id).isSome) = true:=by (simp only [go_sem,seval]; iterate 2 try (simp (disch:=omega) only [zq]; try simp only [go_sem,seval]))) (hnd : L.Nodup:=by decide)
  (hhp : viewHp (Aw.pick L σ.nx) L.length σ.hp hp0:=by (try (simp only [go_sem,seval]; iterate 2 try (simp (disch:=omega) only [zq]; try simp only [go_sem,seval]))) <;> (try (first | rfl | trivial | (and_intros <;> first | rfl | trivial)))) (hxs : renL (Aw.pick L σ.nx) xs = zs:=by (try (simp only [go_sem,seval]; iterate 2 try (simp (disch:=omega) only [zq]; try simp only [go_sem,seval]))) <;> (try rfl)) (hob : ob:=by ((try (simp only [go_sem,seval]; iterate 2 try (simp (disch:=omega) only [zq]; try simp only [go_sem,seval]))); try (first | exact True.intro | omega | (simp only [zb]; omega) | (simp; done) | (simp; omega) | (and_intros <;> first | assumption | omega | (simp; done) | (simp; omega))))) (hob' : ob':=by ((try (simp only [go_sem,seval]; iterate 2 try (simp (disch:=omega) only [zq]; try simp only [go_sem,seval]))); try (first | exact True.intro | omega | (simp only [zb]; omega) | (simp; done) | (simp; omega) | (and_intros <;> first | assumption | omega | (simp; done) | (simp; omega)))))
  (hb : (backOk L hp1 n1 && noT y) = true:=by (simp only [go_sem,seval]; iterate 2 try (simp (disch:=omega) only [zq]; try simp only [go_sem,seval]))) : awGuard P ds o σ K Kp:=awGuard.callH1 hg h hz hd hL hnd hhp hxs hob hob' hc hb hK
end
end Aw

namespace Aw
open Go

theorem awGuard.effK {P : Program} {ds : List (Option Tmp)} {σ : St} {o : Oper} {K : St → Prop} {Kp : AV → St → Prop} (e : Eff) (hg : o.guard = none) (h1 : pureOp P σ true o.op = none) (h2 : effOp P σ o.op = none) (hd : dstOk σ.n o.dst = true)
  (hE : isEff o.op = true ∨ (e.hp = σ.hp ∧ e.nx = σ.nx)) (hok : ∀ m a,Sim m a σ → EffOk P m a o e) (hK : K (St.put ⟨σ.n,σ.env,e.hp,e.nx,σ.gl,σ.np,σ.df⟩ o.dst e.val)) (hA : isAlloc o.op = false:=by first | rfl | (simp only [*,isAlloc]; done) | exact acall_notA ‹_›) : awGuard P ds o σ K Kp:=by
 unfold awGuard
 rw [hg]
 simp only
 unfold awStep
 rw [h1,h2]
 intro m a N Q hS hN _
 obtain ⟨v,m',hrun,hle,hk,hH,hv⟩:=hok m a hS
 have hS':=hS.put hk hH hd hv
 have hkeep : Keeps o σ (St.put ⟨σ.n,σ.env,e.hp,e.nx,σ.gl,σ.np,σ.df⟩ o.dst e.val):=by
  rcases hE with hE | ⟨hE1,hE2⟩
  ·exact .eff hE hA
  ·rw [hE1,hE2]; exact .put
 unfold Oper.wp
 rcases hrun with hrun | ⟨hrun,rfl⟩
 ·rw [hrun]
  exact hN m' _ _ hle hk hS' hkeep .put hK
 ·rw [hrun]
  exact hN m' _ _ hle hk hS' hkeep .put hK

def fsrc (hp : List (Nat × ABlk)) (sz : Nat) (x : AV) : Option (Prop × List (List AV)) :=
 match x with
 | .row id off len=>match get hp id with
  | some (.full sz' es)=>if sz' = sz then some (off + len ≤ es.length ∧ ∀ e ∈ (es.drop off).take len,okRow sz e = true,(es.drop off).take len) else none
  | _=>asrc hp sz x
 | _=>asrc hp sz x
/-! ### from a row to a row with its spare places, and back -/
end Aw

namespace Aw
open Go
section
variable {P : Program} {ds : List (Option Tmp)} {σ : St} {o : Oper} {K : St → Prop} {Kp : AV → St → Prop} {ob ob' : Prop}

end
end Aw

namespace Aw
open Go
section
variable {P : Program} {ds : List (Option Tmp)} {σ : St} {o : Oper} {K : St → Prop} {Kp : AV → St → Prop} {ob ob' ob'' : Prop}

end
end Aw

namespace Aw
open Go
section
variable {P : Program} {ds : List (Option Tmp)} {σ : St} {o : Oper} {K : St → Prop} {Kp : AV → St → Prop} {ob ob' ob'' : Prop}

/-! ### an append of so many zeros, beyond the room -/
end
end Aw

namespace Aw
open Go
section
variable {P : Program} {ds : List (Option Tmp)} {σ : St} {o : Oper} {K : St → Prop} {Kp : AV → St → Prop} {ob ob' ob'' : Prop}
end

end Aw
