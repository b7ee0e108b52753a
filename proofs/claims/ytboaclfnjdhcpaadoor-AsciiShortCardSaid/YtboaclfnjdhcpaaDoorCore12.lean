/- Rules of a calculus of walks: no condition of its own. -/
import Derived.Test.YtboaclfnjdhcpaaDoorCore11
import Derived.Lib.Overlaps
import Derived.IntWalk
namespace Aw
open Go
attribute [go_sem] Option.isNone_none Option.isNone_some Option.isSome_some Option.isSome_none
section
variable {P : Program} {ds : List (Option Tmp)} {fn : Func} {σ σ' : St} {Q : AX → St → Prop} {R : AE → Prop} {y : Code} {id : Nat} {ops : Array Oper} {o : Oper} {K : St → Prop} {Kp : AV → St → Prop} {ob ob' : Prop} {f : FuncId} {ys xs zs : List AV} {l : List Oper} {hp0 hp1 : List (Nat × ABlk)} {n1 : Nat} {u u1 : DM}
theorem AW.df (hk : AW P y (St.put ⟨σ'.n,σ'.env,σ'.hp,σ'.nx,σ'.gl,σ'.np,(f,ys) :: σ'.df⟩ o.dst (.raw undef)) Q) (hops : splitLast ops.toList = some (l,o):=by (simp only [go_sem,seval]; iterate 2 try (simp (disch:=omega) only [zq]; try simp only [go_sem,seval])); exact rfl) (h : runOps P (ops.toList.map (·.dst)) l σ = (ob,[],σ'):=by (simp only [go_sem,seval]; iterate 2 try (simp (disch:=omega) only [zq]; try simp only [go_sem,seval])); exact rfl)
  (hd : adefer σ' o.op = some (ob',f,ys):=by (simp only [go_sem,seval]; iterate 2 try (simp (disch:=omega) only [zq]; try simp only [go_sem,seval])); exact rfl) (hg : o.guard = none:=by exact rfl) (hdst : dstOk σ'.n o.dst = true:=by (simp only [go_sem,seval]; iterate 2 try (simp (disch:=omega) only [zq]; try simp only [go_sem,seval]))) (hob : ob:=by ((try (simp only [go_sem,seval]; iterate 2 try (simp (disch:=omega) only [zq]; try simp only [go_sem,seval]))); try (first | exact True.intro | omega | (simp only [zb]; omega) | (simp; done) | (simp; omega) | (and_intros <;> first | assumption | omega | (simp; done) | (simp; omega))))) (hob' : ob':=by ((try (simp only [go_sem,seval]; iterate 2 try (simp (disch:=omega) only [zq]; try simp only [go_sem,seval]))); try (first | exact True.intro | omega | (simp only [zb]; omega) | (simp; done) | (simp; omega) | (and_intros <;> first | assumption | omega | (simp; done) | (simp; omega))))) : AW P (.seq (.region id ops false) y) σ Q:=AW.seqDefer hops h hd hg hdst hob hob' hk
theorem finD_pan {x y : AV} (hl : LeaveS P fn (.pan y) ⟨σ.n,σ.env,frzs σ.hp (rids σ.hp 9 x),σ.nx,σ.gl,σ.np,σ.df⟩ R) (h : closeR σ x = some (ob,y):=by (simp only [go_sem,seval]; iterate 2 try (simp (disch:=omega) only [zq]; try simp only [go_sem,seval])); exact rfl) (hob : ob:=by ((try (simp only [go_sem,seval]; iterate 2 try (simp (disch:=omega) only [zq]; try simp only [go_sem,seval]))); try (first | exact True.intro | omega | (simp only [zb]; omega) | (simp; done) | (simp; omega) | (and_intros <;> first | assumption | omega | (simp; done) | (simp; omega))))) : finD P fn R (.panic x) σ:=⟨ob,y,h,hob,hl⟩
theorem LeaveS.c1 {r : List (FuncId × List AV)} (L : List Nat) (hc : FnD P σ.gl f xs hp0 L.length u fun u' h n=>u' = u1 ∧ h = hp1 ∧ n = n1)
  (hK : LeaveS P fn u1 ⟨σ.n,σ.env,appHp (dels σ.hp L) (renHp (bk L σ.nx) hp1),σ.nx + (n1 - L.length),σ.gl,σ.np,r⟩ R) (hdf : σ.df = (f,ys) :: r:=by exact rfl)
  (hz : mapO (fz σ.hp 9) ys = some (ob',zs):=by (simp only [go_sem,seval]; iterate 2 try (simp (disch:=omega) only [zq]; try simp only [go_sem,seval])); exact rfl) (hob' : ob':=by ((try (simp only [go_sem,seval]; iterate 2 try (simp (disch:=omega) only [zq]; try simp only [go_sem,seval]))); try (first | exact True.intro | omega | (simp only [zb]; omega) | (simp; done) | (simp; omega) | (and_intros <;> first | assumption | omega | (simp; done) | (simp; omega))))) (hL : L.all (fun id=>(get σ.hp id).isSome) = true:=by (simp only [go_sem,seval]; iterate 2 try (simp (disch:=omega) only [zq]; try simp only [go_sem,seval]))) (hnd : L.Nodup:=by decide) (hhp : viewHp (Aw.pick L σ.nx) L.length σ.hp hp0:=by (try (simp only [go_sem,seval]; iterate 2 try (simp (disch:=omega) only [zq]; try simp only [go_sem,seval]))) <;> (try (first | rfl | trivial | (and_intros <;> first | rfl | trivial))))
  (hxs : renL (Aw.pick L σ.nx) xs = zs:=by (try (simp only [go_sem,seval]; iterate 2 try (simp (disch:=omega) only [zq]; try simp only [go_sem,seval]))) <;> (try rfl)) (hb : backOk L hp1 n1 = true:=by (simp only [go_sem,seval]; iterate 2 try (simp (disch:=omega) only [zq]; try simp only [go_sem,seval]))) : LeaveS P fn u σ R :=
 LeaveS.cons hdf hz hob' hL hnd hhp hxs hc fun _ _ _ ⟨h1,h2,h3⟩=>by subst h1 h2 h3; exact ⟨hb,hK⟩
theorem LeaveS.rt {rs : Array ResultVar} {q : Prop} (hrs : fn.results = rs) (hq : q) (h : finRet P rs.toList R σ = q:=by (try (simp only [go_sem,seval]; iterate 2 try (simp (disch:=omega) only [zq]; try simp only [go_sem,seval]))); exact rfl) : LeaveS P fn .ret σ R:=LeaveS.ret (by rw [hrs,h]; exact hq)
theorem LeaveS.pn {x : AV} (h : R (.panic x)) (hdf : σ.df = []:=by exact rfl) : LeaveS P fn (.pan x) σ R:=LeaveS.pan hdf h
theorem awGuard.cH {y : AV} (L : List Nat) (hc : FnH P σ.gl f xs hp0 L.length fun r h n=>r = .ret y ∧ h = hp1 ∧ n = n1) (hK : K (St.put (backSt σ L hp1 n1) o.dst (ren (bk L σ.nx) y))) (hg : o.guard = none:=by exact rfl)
  (h : acall σ o.op = some (ob,f,ys):=by (simp only [go_sem,seval]; iterate 2 try (simp (disch:=omega) only [zq]; try simp only [go_sem,seval])); exact rfl) (hz : mapO (fz σ.hp 9) ys = some (ob',zs):=by (simp only [go_sem,seval]; iterate 2 try (simp (disch:=omega) only [zq]; try simp only [go_sem,seval])); exact rfl) (hd : dstOk σ.n o.dst = true:=by (simp only [go_sem,seval]; iterate 2 try (simp (disch:=omega) only [zq]; try simp only [go_sem,seval]))) (hL : L.all (fun id=>(get σ.hp id).isSome) = true:=by (simp only [go_sem,seval]; iterate 2 try (simp (disch:=omega) only [zq]; try simp only [go_sem,seval]))) (hnd : L.Nodup:=by decide)
  (hhp : viewHp (Aw.pick L σ.nx) L.length σ.hp hp0:=by (try (simp only [go_sem,seval]; iterate 2 try (simp (disch:=omega) only [zq]; try simp only [go_sem,seval]))) <;> (try (first | rfl | trivial | (and_intros <;> first | rfl | trivial)))) (hxs : renL (Aw.pick L σ.nx) xs = zs:=by (try (simp only [go_sem,seval]; iterate 2 try (simp (disch:=omega) only [zq]; try simp only [go_sem,seval]))) <;> (try rfl)) (hob : ob:=by ((try (simp only [go_sem,seval]; iterate 2 try (simp (disch:=omega) only [zq]; try simp only [go_sem,seval]))); try (first | exact True.intro | omega | (simp only [zb]; omega) | (simp; done) | (simp; omega) | (and_intros <;> first | assumption | omega | (simp; done) | (simp; omega))))) (hob' : ob':=by ((try (simp only [go_sem,seval]; iterate 2 try (simp (disch:=omega) only [zq]; try simp only [go_sem,seval]))); try (first | exact True.intro | omega | (simp only [zb]; omega) | (simp; done) | (simp; omega) | (and_intros <;> first | assumption | omega | (simp; done) | (simp; omega)))))
  (hb : (backOk L hp1 n1 && noT y) = true:=by (simp only [go_sem,seval]; iterate 2 try (simp (disch:=omega) only [zq]; try simp only [go_sem,seval]))) : awGuard P ds o σ K Kp:=awGuard.callH1 hg h hz hd hL hnd hhp hxs hob hob' hc hb hK
theorem awGuard.cHM {c : Bool} {y z : AV} {hp2 : List (Nat × ABlk)} {n2 : Nat} {q1 q2 : Prop} (L : List Nat) (hc : FnH P σ.gl f xs hp0 L.length fun r h n=>(c = true ∧ r = .ret y ∧ h = hp1 ∧ n = n1) ∨ (c = false ∧ r = .panic z ∧ h = hp2 ∧ n = n2))
  (hKp : q2 → Kp z (backSt σ L hp2 n2)) (hK : q1 → K (St.put (backSt σ L hp1 n1) o.dst (ren (bk L σ.nx) y))) (hg : o.guard = none:=by exact rfl)
  (h : acall σ o.op = some (ob,f,ys):=by (simp only [go_sem,seval]; iterate 2 try (simp (disch:=omega) only [zq]; try simp only [go_sem,seval])); exact rfl) (hz : mapO (fz σ.hp 9) ys = some (ob',zs):=by (simp only [go_sem,seval]; iterate 2 try (simp (disch:=omega) only [zq]; try simp only [go_sem,seval])); exact rfl) (hd : dstOk σ.n o.dst = true:=by (simp only [go_sem,seval]; iterate 2 try (simp (disch:=omega) only [zq]; try simp only [go_sem,seval]))) (hL : L.all (fun id=>(get σ.hp id).isSome) = true:=by (simp only [go_sem,seval]; iterate 2 try (simp (disch:=omega) only [zq]; try simp only [go_sem,seval]))) (hnd : L.Nodup:=by decide)
  (hhp : viewHp (Aw.pick L σ.nx) L.length σ.hp hp0:=by (try (simp only [go_sem,seval]; iterate 2 try (simp (disch:=omega) only [zq]; try simp only [go_sem,seval]))) <;> (try (first | rfl | trivial | (and_intros <;> first | rfl | trivial)))) (hxs : renL (Aw.pick L σ.nx) xs = zs:=by (try (simp only [go_sem,seval]; iterate 2 try (simp (disch:=omega) only [zq]; try simp only [go_sem,seval]))) <;> (try rfl)) (hob : ob:=by ((try (simp only [go_sem,seval]; iterate 2 try (simp (disch:=omega) only [zq]; try simp only [go_sem,seval]))); try (first | exact True.intro | omega | (simp only [zb]; omega) | (simp; done) | (simp; omega) | (and_intros <;> first | assumption | omega | (simp; done) | (simp; omega))))) (hob' : ob':=by ((try (simp only [go_sem,seval]; iterate 2 try (simp (disch:=omega) only [zq]; try simp only [go_sem,seval]))); try (first | exact True.intro | omega | (simp only [zb]; omega) | (simp; done) | (simp; omega) | (and_intros <;> first | assumption | omega | (simp; done) | (simp; omega)))))
  (hb : (backOk L hp1 n1 && noT y) = true:=by (simp only [go_sem,seval]; iterate 2 try (simp (disch:=omega) only [zq]; try simp only [go_sem,seval]))) (hb2 : backOk L hp2 n2 = true:=by (simp only [go_sem,seval]; iterate 2 try (simp (disch:=omega) only [zq]; try simp only [go_sem,seval]))) (e1 : (c = true) = q1:=by (try simp only [zb]); exact rfl) (e2 : (c = false) = q2:=by (try simp only [zb]); exact rfl) : awGuard P ds o σ K Kp :=
 awGuard.callH hg h hz hd hL hnd hhp hxs hob hob' hc (fun r hp nx hr=>by
   rcases hr with ⟨h0,h1,h2,h3⟩ | ⟨_,h1,_⟩
   ·cases h1; subst h2 h3; exact ⟨hb,hK (e1 ▸ h0)⟩
   ·cases h1)
  (fun r hp nx hr=>by
   rcases hr with ⟨_,h1,_⟩ | ⟨h0,h1,h2,h3⟩
   ·cases h1
   ·cases h1; subst h2 h3; exact ⟨hb2,hKp (e2 ▸ h0)⟩)
end
end Aw

namespace Aw
open Go

theorem awGuard.effK {P : Program} {ds : List (Option Tmp)} {σ : St} {o : Oper} {K : St → Prop} {Kp : AV → St → Prop} (e : Eff) (hg : o.guard = none) (h1 : pureOp P σ true o.op = none) (h2 : effOp P σ o.op = none) (hd : dstOk σ.n o.dst = true)
  (hE : isEff o.op = true ∨ (e.hp = σ.hp ∧ e.nx = σ.nx)) (hok : ∀ m a,Sim m a σ → EffOk P m a o e) (hK : K (St.put ⟨σ.n,σ.env,e.hp,e.nx,σ.gl,σ.np,σ.df⟩ o.dst e.val)) (hA : isAlloc o.op = false:=by first | rfl | (simp only [*,isAlloc]; done) | exact acall_notA ‹_›) : awGuard P ds o σ K Kp:=by
 unfold awGuard
 rw [hg]
 simp only
 unfold awStep
 rw [h1,h2]
 intro m a N Q hS hN _
 obtain ⟨v,m',hrun,hle,hk,hH,hv⟩:=hok m a hS
 have hS':=hS.put hk hH hd hv
 have hkeep : Keeps o σ (St.put ⟨σ.n,σ.env,e.hp,e.nx,σ.gl,σ.np,σ.df⟩ o.dst e.val):=by
  rcases hE with hE | ⟨hE1,hE2⟩
  ·exact .eff hE hA
  ·rw [hE1,hE2]; exact .put
 unfold Oper.wp
 rcases hrun with hrun | ⟨hrun,rfl⟩
 ·rw [hrun]
  exact hN m' _ _ hle hk hS' hkeep .put hK
 ·rw [hrun]
  exact hN m' _ _ hle hk hS' hkeep .put hK

def rowOf (b : Bool) (sz : Nat) (es : List (List AV)) : ABlk:=if b = true then .full sz es else .row sz es true
theorem rowOf_rep {m : Mem} {ri : RI} {b : Bool} {sz : Nat} {es : List (List AV)} : BlkRep m ri (rowOf b sz es) ↔ (RowRep m ri sz es true ∧ (b = true → ri.isNil = false → es.length = ri.cap)):=by
 cases b
 ·simp only [rowOf,Bool.false_eq_true,if_false,false_imp_iff,and_true]; exact Iff.rfl
 ·simp only [rowOf,if_true,forall_const]; exact Iff.rfl

theorem rset_sound {m : Mem} {hp : List (Nat × ABlk)} {nx : Nat} (hH : SimH m hp nx) {id sz : Nat} {es new : List (List AV)} {b : Bool} (hg : get hp id = some (rowOf b sz es)) {ri : RI} (hρ : m.ρ id = some ri) (hn : ri.isNil = false) {k : Nat}
  (hfit : k + new.length ≤ es.length) (hnew : ∀ e ∈ new,e.length = ri.sz) {vs : List Value} (hl : RepL m 2 new.flatten vs) (hone : ∀ u ∈ vs,isOne u = true) (P : Program) :
  ∃ m' : Mem,(storeCells ⟨ri.b,ri.o + k * ri.sz,none⟩ vs).run P m.w = .ok () m'.w ∧ m.le m' ∧ m.keeps m' ∧ SimH m' (set hp id (rowOf b sz (splice es k new))) nx:=by
 obtain ⟨ri',hρ',hb⟩:=hH.blk id _ hg
 rw [hρ] at hρ'
 injection hρ' with hρ'
 subst hρ'
 rw [rowOf_rep] at hb
 obtain ⟨hb,hbc⟩:=hb
 rcases hb with ⟨h,_⟩ | ⟨_,hP,⟨hsz,hsz'⟩,hcap,⟨c,T,lo,hi,hbk,hfr,hcs⟩,hif⟩
 ·rw [hn] at h; cases h
 rw [if_pos rfl] at hif
 obtain ⟨hY,hF⟩:=hif
 obtain ⟨hall,hX⟩:=RepY.flat.1 hY
 have hLv:=RepX.list hbk hX
 rw [flat_len hall] at hLv
 have hvl : vs.length = new.length * ri.sz:=by rw [hl.length,flat_len hnew]
 have e0 : ri.cap * ri.sz = es.length * ri.sz + (ri.cap - es.length) * ri.sz:=by rw [← Nat.add_mul]; congr 1; omega
 have e1 : es.length * ri.sz = k * ri.sz + (new.length * ri.sz + (es.length - k - new.length) * ri.sz):=by rw [← Nat.add_mul,← Nat.add_mul]; congr 1; omega
 obtain ⟨c',hc1,hc2⟩:=run_storeCells (P:=P) vs (ri.o + k * ri.sz) 0 m.w c hbk (fun i h=>hfr i (Nat.lt_of_lt_of_le h (Nat.le_add_right _ _))) (by omega) hone
 rw [Nat.add_zero] at hc1
 have hcsz : c'.size = c.size:=by
  rw [← Array.length_toList,hc1]
  simp only [splice,List.length_append,List.length_take,List.length_drop,Array.length_toList]
  omega
 have hsame : ∀ j,j < ri.o + k * ri.sz → c'[j]? = c[j]?:=by
  intro j hj
  rw [← Array.getElem?_toList,← Array.getElem?_toList,hc1]
  unfold splice
  by_cases h : j < c.size
  ·rw [List.append_assoc,List.getElem?_append_left (by simp; omega),List.getElem?_take,if_pos hj]
  ·have h' : c.toList.length ≤ j:=by simpa using h
   omega
 have hU : Upd m { m with w:=wset m.w ri.b (.cells c' T (lo,hi)) } ri.b:=by
  refine Upd.set hH hP (fun o h=>?_)
  have hlt : o < ri.o:=by
   rcases Nat.lt_or_ge o ri.o with h' | h'
   ·exact h'
   ·exact (hF o h' h).elim
  simp only [World.cell?,wset_get hbk,hbk,Option.isSome_none,Bool.false_eq_true,if_false]
  exact hsame o (by omega)
 have hlen : (splice es k new).length = es.length:=by
  simp only [splice,List.length_append,List.length_take,List.length_drop]
  omega
 have hall' : ∀ e ∈ splice es k new,e.length = ri.sz:=by
  intro e he
  simp only [splice,List.mem_append] at he
  rcases he with (he | he) | he
  ·exact hall e (List.mem_of_mem_take he)
  ·exact hnew e he
  ·exact hall e (List.mem_of_mem_drop he)
 have hflat : (splice es k new).flatten = splice es.flatten (k * ri.sz) new.flatten:=by
  have t1 : ∀ (l : List (List AV)) (k : Nat),(∀ e ∈ l,e.length = ri.sz) → (l.take k).flatten = l.flatten.take (k * ri.sz) ∧ (l.drop k).flatten = l.flatten.drop (k * ri.sz):=by
   intro l
   induction l with
   | nil=>intro k _; simp
   | cons x l ih =>
    intro k hx
    cases k with
    | zero=>simp
    | succ k =>
     obtain ⟨i1,i2⟩:=ih k (fun e he=>hx e (List.mem_cons_of_mem _ he))
     have hxl:=hx x (List.mem_cons_self)
     have e : (k + 1) * ri.sz = x.length + k * ri.sz:=by rw [hxl,Nat.succ_mul,Nat.add_comm]
     rw [List.take_succ_cons,List.drop_succ_cons,List.flatten_cons,List.flatten_cons,i1,i2,e,List.take_length_add_append,List.drop_length_add_append]
     exact ⟨rfl,rfl⟩
  unfold splice
  rw [List.flatten_append,List.flatten_append,(t1 es k hall).1,(t1 es _ hall).2,flat_len hnew,Nat.add_mul]
 refine ⟨{ m with w:=wset m.w ri.b (.cells c' T (lo,hi)) },hc2,hU.le hH,hU.keeps hH,?_⟩
 refine hH.upd hU (k:=id) (ri:=ri) (blk:=rowOf b sz (splice es k new)) hρ ?_ (fun _=>rfl) (by rw [get_set,if_pos rfl]) ?_ hH.fresh
 ·rw [rowOf_rep]
  refine ⟨.inr ⟨hn,hP,⟨hsz,hsz'⟩,by rw [hlen]; exact hcap,⟨c',T,lo,hi,wset_get hbk,by rw [hcsz]; exact hfr,by rw [hcsz]; exact hcs⟩,?_⟩,fun hb _=>by rw [hlen]; exact hbc hb hn⟩
  rw [if_pos rfl]
  refine ⟨RepY.flat.2 ⟨hall',RepX.of_list (c:=c') (wset_get hbk) ?_⟩,hF⟩
  rw [flat_len hall',hlen,hc1,hflat]
  have:=splice_window (l:=c.toList) (new:=vs) (o:=ri.o) (k:=k * ri.sz) (L:=es.length * ri.sz) (by simp only [Array.length_toList]; omega) (by omega) (by simp only [Array.length_toList]; omega)
  rw [this]
  exact (RepL.mono (hU.keeps hH) 2 _ _ hLv).splice (RepL.mono (hU.keeps hH) 2 _ _ hl) _
 ·intro j hj z hz
  rw [get_set,if_neg (Ne.symm hj)] at hz
  exact ⟨hz,hH.sole hg hρ hn j hj z hz⟩

def fsrc (hp : List (Nat × ABlk)) (sz : Nat) (x : AV) : Option (Prop × List (List AV)) :=
 match x with
 | .row id off len=>match get hp id with
  | some (.full sz' es)=>if sz' = sz then some (off + len ≤ es.length ∧ ∀ e ∈ (es.drop off).take len,okRow sz e = true,(es.drop off).take len) else none
  | _=>asrc hp sz x
 | _=>asrc hp sz x
theorem fsrc_sound {P : Program} {m : Mem} {hp : List (Nat × ABlk)} {nx : Nat} (hH : SimH m hp nx) {sz : Nat} {x : AV} {v : Value} {ob : Prop} {es : List (List AV)}
  (h : fsrc hp sz x = some (ob,es)) (hob : ob) (hv : Rep m 0 x v) :
  (∀ e ∈ es,e.length = sz) ∧ (∀ w,(Builtin.lenOf v).run P w = .ok es.length w) ∧
   ∃ vs : List Value,RepL m 2 es.flatten vs ∧ (∀ u ∈ vs,isOne u = true) ∧ ∀ w : World,w.heap = m.w.heap → (Builtin.firstCells sz es.length v).run P w = .ok vs.toArray w:=by
 unfold fsrc at h
 split at h
 case h_2=>exact asrc_sound hH h hob hv
 rename_i id off len
 split at h
 case h_2=>exact asrc_sound hH h hob hv
 rename_i sz' es' hg
 split at h
 case isFalse=>cases h
 simp only [Option.some.injEq,Prod.mk.injEq] at h
 obtain ⟨rfl,rfl⟩:=h
 obtain ⟨hle,hall'⟩:=hob
 simp only [Rep] at hv
 obtain ⟨_,ri,hρ,hrow⟩:=hv
 obtain ⟨ri',hρ',hb⟩:=hH.blk id _ hg
 rw [hρ] at hρ'
 injection hρ' with hρ'
 subst hρ'
 have hlen : ((es'.drop off).take len).length = len:=by simp; omega
 rcases hrow with ⟨hn,rfl,rfl,rfl⟩ | ⟨hn,hcap,hlt,rfl⟩ | ⟨hn,rfl,rfl,a,rfl⟩
 ·exact ⟨(fun e he=>by simp at he),(fun w=>by simpa using lenOf_slice),[],by simp [RepL],(fun u hu=>by cases hu),(fun w _=>by simpa using firstCells_zero)⟩
 ·rcases hb with ⟨⟨hn',_⟩ | ⟨_,_,_,_,_,hif⟩,_⟩
  ·rw [hn] at hn'; cases hn'
  ·by_cases hnil : (es'.drop off).take len = []
   ·have hl0 : len = 0:=by rw [← hlen,hnil] <;> rfl
    subst hl0
    exact ⟨(fun e he=>by simp at he),(fun w=>by simpa using lenOf_slice),[],by simp [RepL],(fun u hu=>by cases hu),(fun w _=>by simpa using firstCells_zero)⟩
   ·rw [if_pos rfl] at hif
    have hY:=hif.1
    have hYd:=(hY.drop off).take len
    have hpos : 0 < ((es'.drop off).take len).length:=List.length_pos_iff.2 hnil
    have hsz : ri.sz = sz:=(hYd.at 0 hpos).1.symm.trans (okRow_len (hall' _ (List.getElem_mem hpos)))
    obtain ⟨vs,hl,hf⟩:=firstCells_of (P:=P) (c:=ri.cap - off) hYd
    rw [hlen] at hf ⊢
    rw [← hsz]
    refine ⟨fun e he=>by rw [hsz]; exact okRow_len (hall' e he),fun w=>lenOf_slice,vs,hl,?_,fun w hw=>hf w hw _⟩
    refine hl.isOne fun x hx=>?_
    obtain ⟨e,he,hxe⟩:=List.mem_flatten.1 hx
    exact okRow_ok (hall' e he) x hxe
 ·exact ⟨(fun e he=>by simp at he),(fun w=>by simpa using lenOf_slice),[],by simp [RepL],(fun u hu=>by cases hu),(fun w _=>by simpa using firstCells_zero)⟩

/-! ### from a row to a row with its spare places, and back -/
theorem AW.toFull {P : Program} {c : Code} {σ : St} {Q : AX → St → Prop} (id : Nat) {sz : Nat} {es : List (List AV)} (hg : get σ.hp id = some (.row sz es true))
  (h : ∀ k,AW P c ⟨σ.n,σ.env,set σ.hp id (.full sz (es ++ List.replicate k (List.replicate sz .top))),σ.nx,σ.gl,σ.np,σ.df⟩ Q) : AW P c σ Q:=by
 intro m a hS
 obtain ⟨ri,hρ,hb⟩:=hS.h.blk id _ hg
 have key : ∃ k,SimH m (set σ.hp id (.full sz (es ++ List.replicate k (List.replicate sz .top)))) σ.nx:=by
  refine ⟨if ri.isNil = true then 0 else ri.cap - es.length,?_,?_,hS.h.fresh,hS.h.Fold,hS.h.Pold⟩
  ·intro i x hx
   rw [get_set] at hx
   split at hx
   ·rename_i e
    injection hx with hx
    subst e hx
    refine ⟨ri,hρ,?_⟩
    rcases hb with ⟨h1,h2⟩ | ⟨h1,h2,⟨h3,h3'⟩,h4,⟨c,T,lo,hi,g1,g2,g3⟩,h8⟩
    ·rw [if_pos h1,List.replicate_zero,List.append_nil]
     exact ⟨.inl ⟨h1,h2⟩,fun h=>by rw [h1] at h; cases h⟩
    ·rw [if_neg (by simp [h1])]
     have hlen : (es ++ List.replicate (ri.cap - es.length) (List.replicate sz AV.top)).length = ri.cap:=by simp; omega
     refine ⟨.inr ⟨h1,h2,⟨h3,h3'⟩,Nat.le_of_eq hlen,⟨c,T,lo,hi,g1,g2,g3⟩,?_⟩,fun _=>hlen⟩
     rw [if_pos rfl] at h8 ⊢
     obtain ⟨hY,hF⟩:=h8
     refine ⟨?_,hF⟩
     obtain ⟨hall,hX⟩:=RepY.flat.1 hY
     refine RepY.flat.2 ⟨?_,?_⟩
     ·intro e he
      rcases List.mem_append.1 he with he | he
      ·exact hall e he
      ·rw [(List.mem_replicate.1 he).2,List.length_replicate,h3']
     ·rw [List.flatten_append,RepX.flat_append]
      refine ⟨hX,?_⟩
      rw [flat_len hall]
      have htop : ∀ (n o : Nat),o + n ≤ c.size → RepX m 2 (List.replicate n AV.top) ri.b o:=by
       intro n
       induction n with
       | zero=>intro o _; simp only [List.replicate_zero,RepX]
       | succ n ih =>
        intro o ho
        simp only [List.replicate_succ,RepX]
        refine ⟨⟨c[o]'(by omega),?_,by simp only [Rep]⟩,ih (o + 1) (by omega)⟩
        simp only [World.cell?,g1,Option.isSome_none,Bool.false_eq_true,if_false]
        rw [Array.getElem?_eq_getElem (by omega)]
      have hfl : (List.replicate (ri.cap - es.length) (List.replicate sz AV.top)).flatten = List.replicate ((ri.cap - es.length) * sz) AV.top:=by
       simp
      rw [hfl]
      refine htop _ _ ?_
      have : ri.cap * ri.sz = es.length * ri.sz + (ri.cap - es.length) * ri.sz:=by rw [← Nat.add_mul]; congr 1; omega
      rw [h3'] at this g3 ⊢
      omega
   ·exact hS.h.blk i x hx
  ·intro i i' x x' r r' hx hx' hr hr' hne hn hn'
   have hk : ∀ j y,get (set σ.hp id (.full sz (es ++ List.replicate (if ri.isNil = true then 0 else ri.cap - es.length) (List.replicate sz .top)))) j = some y → ∃ z,get σ.hp j = some z:=by
    intro j y hy
    rw [get_set] at hy
    split at hy
    ·rename_i e; subst e; exact ⟨_,hg⟩
    ·exact ⟨y,hy⟩
   obtain ⟨z,hz⟩:=hk i x hx
   obtain ⟨z',hz'⟩:=hk i' x' hx'
   exact hS.h.apart i i' z z' r r' hz hz' hr hr' hne hn hn'
 obtain ⟨k,hk⟩:=key
 exact h k m a ⟨hk,hS.n,hS.defers,hS.env,hS.gl,hS.np⟩

theorem St.le.unFull {σ : St} (id k : Nat) {sz : Nat} {es : List (List AV)} (hg : get σ.hp id = some (.full sz es)) : St.le ⟨σ.n,σ.env,set σ.hp id (.row sz (es.take k) true),σ.nx,σ.gl,σ.np,σ.df⟩ σ:=by
 intro m a hS
 refine ⟨m,rfl,.refl m,⟨⟨?_,?_,hS.h.fresh,hS.h.Fold,hS.h.Pold⟩,hS.n,hS.defers,hS.env,hS.gl,hS.np⟩⟩
 ·intro i x hx
  rw [get_set] at hx
  split at hx
  ·rename_i e
   injection hx with hx
   subst e hx
   obtain ⟨ri,hρ,hb,_⟩:=hS.h.blk _ _ hg
   refine ⟨ri,hρ,?_⟩
   rcases hb with ⟨h1,h2⟩ | ⟨h1,h2,h3,h4,h5,h8⟩
   ·exact .inl ⟨h1,by rw [h2,List.take_nil]⟩
   ·refine .inr ⟨h1,h2,h3,Nat.le_trans (by simp; omega) h4,h5,?_⟩
    rw [if_pos rfl] at h8 ⊢
    exact ⟨h8.1.take k,h8.2⟩
  ·exact hS.h.blk i x hx
 ·intro i i' x x' r r' hx hx' hr hr' hne hn hn'
  have hk : ∀ j y,get (set σ.hp id (.row sz (es.take k) true)) j = some y → ∃ z,get σ.hp j = some z:=by
   intro j y hy
   rw [get_set] at hy
   split at hy
   ·rename_i e; subst e; exact ⟨_,hg⟩
   ·exact ⟨y,hy⟩
  obtain ⟨z,hz⟩:=hk i x hx
  obtain ⟨z',hz'⟩:=hk i' x' hx'
  exact hS.h.apart i i' z z' r r' hz hz' hr hr' hne hn hn'
end Aw

namespace Aw
open Go
section
variable {P : Program} {ds : List (Option Tmp)} {σ : St} {o : Oper} {K : St → Prop} {Kp : AV → St → Prop} {ob ob' : Prop}

theorem awGuard.fcap {x : Operand} {t e : TypeId} {i : TI} {id off len sz : Nat} {es : List (List AV)} {c : Call} (hg : o.guard = none) (ho : o.op = .call c) (hc : c.callee = .builtin .cap) (ha : c.args = #[x]) (ht : c.argTypes = #[t]) (hi : tinfo P t = some i) (hk : i.k = .slice e)
  (hx : evE σ x = some (ob,.row id off len)) (hob : ob) (hp : get σ.hp id = some (.full sz es)) (hd : dstOk σ.n o.dst = true) (hK : K (σ.put o.dst (.int .i64 ((es.length : Int) - off)))) : awGuard P ds o σ K Kp:=by
 refine awGuard.effK ⟨True,.int .i64 ((es.length : Int) - off),σ.hp,σ.nx⟩ hg ?_ ?_ hd (.inr ⟨rfl,rfl⟩) ?_ hK
 ·rw [ho]; simp only [pureOp,hc]
 ·rw [ho]; simp only [effOp,hc]
 ·intro m a hS
  obtain ⟨A,hv,hle⟩:=full_cap hS.h hp (evE_sound hS hx hob)
  refine ⟨.int .i64 ((es.length : Int) - off),m,.inl ?_,.refl m,.refl m,hS.h,by simp only [Rep]⟩
  obtain ⟨callee,args,argTypes⟩:=c
  simp only at hc ha ht
  subst hc ha ht
  simp only [execOp,ho]
  show (do pure (Next.value (← Builtin.cap_ #[t] o.type ((#[x] : Array Operand).map a.eval))) : Sem Next).run P m.w = _
  have e3 : (#[x] : Array Operand).map a.eval = #[a.eval x]:=by simp
  rw [e3,hv]
  refine run_value ?_
  have e1 : (#[t] : Array TypeId)[0]? = some t:=rfl
  have e2 : (#[Value.slice A len (es.length - off)] : Array Value)[0]? = some (.slice A len (es.length - off)):=rfl
  simp only [Builtin.cap_,e1,e2,Sem.run_bind,run_slice_ti hi hk,Result.andThen_ok,Sem.run_pure]
  rw [show goInt ((es.length - off : Nat) : Int) = .int .i64 ((es.length : Int) - off) from by rw [Int.ofNat_sub (by omega)]; rfl]

end
end Aw

namespace Aw
open Go
section
variable {P : Program} {ds : List (Option Tmp)} {σ : St} {o : Oper} {K : St → Prop} {Kp : AV → St → Prop} {ob ob' ob'' : Prop}

theorem awGuard.sl3 {x lo hi mx : Operand} {t e : TypeId} {i ei : TI} {id off len sz : Nat} {es : List (List AV)} {own : Bool} {l h k : Int} {k1 k2 k3 : IntKind} {b1 b2 b3 : Prop} (hg : o.guard = none) (ho : o.op = .slice t x (some lo) (some hi) (some mx)) (hi' : tinfo P t = some i) (hk : i.k = .slice e) (hei : tinfo P e = some ei)
  (hx : evE σ x = some (ob,.row id off len)) (hob : ob) (hl : evE σ lo = some (b1,.int k1 l)) (hh : evE σ hi = some (b2,.int k2 h)) (hm : evE σ mx = some (b3,.int k3 k)) (h1 : b1) (h2 : b2) (h3 : b3) (_ : get σ.hp id = some (.row sz es own)) (hle : 0 ≤ l ∧ l ≤ h ∧ h ≤ k ∧ k ≤ (len : Int))
  (hd : dstOk σ.n o.dst = true) (hK : K (σ.put o.dst .top)) : awGuard P ds o σ K Kp:=by
 refine awGuard.effK ⟨True,.top,σ.hp,σ.nx⟩ hg (by rw [ho]; rfl) (by rw [ho]; rfl) hd (.inr ⟨rfl,rfl⟩) ?_ hK
 intro m a hS
 have hv:=evE_sound hS hx hob
 have hlv:=evE_sound hS hl h1
 have hhv:=evE_sound hS hh h2
 have hmv:=evE_sound hS hm h3
 simp only [Rep] at hv hlv hhv hmv
 obtain ⟨_,ri,hρ,hrow⟩:=hv
 have b2 : ∀ (v : Value) (n : Int) (y : Nat) (c : BoundsCode) (k : IntKind),v = .int k n → 0 ≤ n → n ≤ y → (Instr.sliceBound v y c).run P m.w = .ok n.toNat m.w:=by
  rintro _ n y c k rfl h0 h1
  simp [Instr.sliceBound,asIntOf_run,h0,h1]
 have key : ∀ A cap,a.eval x = .slice A len cap → len ≤ cap → ∃ r,(Instr.sliceAt t (a.eval x) (some (a.eval lo)) (some (a.eval hi)) (some (a.eval mx))).run P m.w = .ok r m.w:=by
  intro A cap hA hcap
  have hb : (Instr.sliceBounds true len cap (some (a.eval lo)) (some (a.eval hi)) (some (a.eval mx))).run P m.w = .ok (l.toNat,h.toNat,k.toNat) m.w:=by
   simp [Instr.sliceBounds,b2 (a.eval mx) k cap _ k3 hmv (by omega) (by omega),b2 (a.eval hi) h k.toNat _ k2 hhv (by omega) (by omega),b2 (a.eval lo) l h.toNat _ k1 hlv (by omega) (by omega)]
  rw [hA]
  have : (Instr.sliceAt t (.slice A len cap) (some (a.eval lo)) (some (a.eval hi)) (some (a.eval mx))).run P m.w = (Instr.slice t (.slice A len cap) (some (a.eval lo)) (some (a.eval hi)) (some (a.eval mx))).run P m.w:=by
   simp only [Instr.sliceAt,Sem.run_bind,run_slice_ti hi' hk,Result.andThen_ok]
  rw [this]
  exact ⟨_,by simp only [Instr.slice,Sem.run_bind,run_slice_ti hi' hk,Result.andThen_ok,hb,run_sizeOf_ti hei,Sem.run_pure]; rfl⟩
 obtain ⟨r,hr⟩ : ∃ r,(Instr.sliceAt t (a.eval x) (some (a.eval lo)) (some (a.eval hi)) (some (a.eval mx))).run P m.w = .ok r m.w:=by
  rcases hrow with ⟨hn,rfl,rfl,hv⟩ | ⟨hn,hcap',hlt,hv⟩ | ⟨hn,rfl,rfl,A',hv⟩
  ·exact key _ _ hv (Nat.le_refl 0)
  ·exact key _ _ hv (by omega)
  ·exact key _ _ hv (Nat.le_refl 0)
 refine ⟨r,m,.inl ?_,.refl m,.refl m,hS.h,by simp only [Rep]⟩
 simp only [execOp,ho,Option.map_some]
 exact run_value hr

theorem row_head {m : Mem} {id off len k : Nat} {v : Value} (hv : Rep m 0 (.row id off len) v) (hk : k ≤ len) (P : Program) :
  ∃ v',Rep m 0 (.row id off k) v' ∧ (∀ w,(Builtin.lenOf v).run P w = .ok len w) ∧ ∀ sz w,(Builtin.firstCells sz k v).run P w = (Builtin.firstCells sz k v').run P w:=by
 simp only [Rep] at hv ⊢
 obtain ⟨h0,ri,hρ,hrow⟩:=hv
 rcases hrow with ⟨hn,rfl,rfl,rfl⟩ | ⟨hn,hcap,hlt,rfl⟩ | ⟨hn,rfl,rfl,a,rfl⟩
 ·obtain rfl : k = 0:=by omega
  exact ⟨_,⟨h0,ri,hρ,.inl ⟨hn,rfl,rfl,rfl⟩⟩,fun w=>lenOf_slice,fun _ _=>rfl⟩
 ·exact ⟨.slice (some ⟨ri.b,ri.o + off * ri.sz,none⟩) k (ri.cap - off),⟨h0,ri,hρ,.inr (.inl ⟨hn,by omega,hlt,rfl⟩)⟩,fun w=>lenOf_slice,fun _ _=>rfl⟩
 ·obtain rfl : k = 0:=by omega
  exact ⟨_,⟨h0,ri,hρ,.inr (.inr ⟨hn,rfl,rfl,a,rfl⟩)⟩,fun w=>lenOf_slice,fun _ _=>rfl⟩

theorem copy_sound {x y : Operand} {t u e : TypeId} {i ei : TI} {id off len id2 off2 len2 n sz : Nat} {es src : List (List AV)} {b : Bool} {c : Call} (ho : o.op = .call c) (hc : c.callee = .builtin .copy) (ha : c.args = #[x,y]) (ht : c.argTypes = #[t,u]) (hi : tinfo P t = some i) (hk : i.k = .slice e) (hei : tinfo P e = some ei) (hsz : sz = ei.sz)
  (hx : evE σ x = some (ob,.row id off len)) (hob : ob) (hp : get σ.hp id = some (rowOf b sz es)) (hle : off + n ≤ es.length) (hy : evE σ y = some (ob'',.row id2 off2 len2)) (hq : ob'') (hn : n = min len2 len) (hs : fsrc σ.hp ei.sz (.row id2 off2 n) = some (ob',src)) (hob' : ob') {m : Mem} {a : Act} (hS : Sim m a σ) :
  EffOk P m a o ⟨True,.int .i64 (n : Nat),set σ.hp id (rowOf b sz (splice es off src)),σ.nx⟩:=by
 have hv:=evE_sound hS hx hob
 have hy':=evE_sound hS hy hq
 obtain ⟨v',hv',hlen,hfst⟩:=row_head (k:=n) hy' (by omega) P
 obtain ⟨g1,g2,vs,g3,g4,g5⟩:=fsrc_sound (P:=P) hS.h hs hob' hv'
 have hsl : src.length = n:=by
  have h1:=g2 m.w
  obtain ⟨v'',hv'',h2,_⟩:=row_head (k:=n) hv' (Nat.le_refl _) P
  have:=h2 m.w
  rw [h1] at this
  simpa using this
 rw [hsl] at g5
 simp only [Rep] at hv
 obtain ⟨_,ri,hρ,hrow⟩:=hv
 obtain ⟨callee,args,argTypes⟩:=c
 simp only at hc ha ht
 subst hc ha ht
 have e1 : (#[t,u] : Array TypeId)[0]? = some t:=rfl
 have hcopy : ∀ (A : Option Addr) (cp : Nat) (w' : World),(∀ a',A = some a' → (storeCells a' vs).run P m.w = .ok () w') → (A = none → w' = m.w) →
   (Builtin.copy_ #[t,u] o.type #[.slice A len cp,a.eval y]).run P m.w = .ok (.int .i64 (n : Nat)) w':=by
  intro A cp w' h1 h2
  have e2 : (#[Value.slice A len cp,a.eval y] : Array Value)[0]? = some (.slice A len cp):=rfl
  have e3 : (#[Value.slice A len cp,a.eval y] : Array Value)[1]? = some (a.eval y):=rfl
  have hmin : Nat.min len2 len = n:=hn.symm
  have hfc : (Builtin.firstCells ei.sz n (a.eval y)).run P m.w = .ok vs.toArray m.w:=by rw [hfst,g5 m.w rfl]
  cases A with
  | none =>
   have:=h2 rfl
   subst this
   simp only [Builtin.copy_,e1,e2,e3,Sem.run_bind,run_slice_ti hi hk,Result.andThen_ok,hlen,run_sizeOf_ti hei,hmin,hfc,Sem.run_pure]
   rfl
  | some a' =>
   simp only [Builtin.copy_,e1,e2,e3,Sem.run_bind,run_slice_ti hi hk,Result.andThen_ok,hlen,run_sizeOf_ti hei,hmin,hfc,h1 a' rfl,Sem.run_pure]
   rfl
 have hexec : ∀ (A : Option Addr) (cp : Nat) (w' : World),a.eval x = .slice A len cp → (∀ a',A = some a' → (storeCells a' vs).run P m.w = .ok () w') → (A = none → w' = m.w) → (execOp a.eval o).run P m.w = .ok (.value (.int .i64 (n : Nat))) w':=by
  intro A cp w' hA h1 h2
  simp only [execOp,ho]
  show (do pure (Next.value (← Builtin.copy_ #[t,u] o.type ((#[x,y] : Array Operand).map a.eval))) : Sem Next).run P m.w = _
  have e3 : (#[x,y] : Array Operand).map a.eval = #[a.eval x,a.eval y]:=by simp
  rw [e3,hA]
  exact run_value (hcopy A cp w' h1 h2)
 have hnil : n = 0 → vs = [] ∧ SimH m (set σ.hp id (rowOf b sz (splice es off src))) σ.nx:=by
  intro h0
  have hs0 : src = []:=List.length_eq_zero_iff.1 (by omega)
  subst hs0
  have : splice es off [] = es:=by simp [splice]
  rw [this]
  refine ⟨by have:=g3.length; simpa using this,SimH.congr ?_ hS.h⟩
  intro j
  rw [get_set]
  split
  ·rename_i e; subst e; exact hp.symm
  ·rfl
 rcases hrow with ⟨hn',rfl,rfl,hv⟩ | ⟨hn',hcap',hlt,hv⟩ | ⟨hn',rfl,rfl,A',hv⟩
 ·obtain ⟨_,h2⟩:=hnil (by omega)
  exact ⟨_,m,.inl (hexec _ _ _ hv (fun a' h=>by cases h) (fun _=>rfl)),.refl m,.refl m,h2,by simp only [Rep]⟩
 ·have hri : ri.sz = sz:=by
   obtain ⟨ri',hρ',hb⟩:=hS.h.blk id _ hp
   rw [hρ] at hρ'
   injection hρ' with hρ'
   subst hρ'
   rw [rowOf_rep] at hb
   rcases hb.1 with h | h
   ·rw [hn'] at h; cases h.1
   ·exact h.2.2.1.2
  obtain ⟨m',k1,k2,k3,k4⟩:=rset_sound hS.h hp hρ hn' (k:=off) (new:=src) (by omega) (by rw [hri,hsz]; exact g1) g3 g4 P
  exact ⟨_,m',.inl (hexec _ _ _ hv (fun a' h=>by injection h with h; subst h; exact k1) (fun h=>by cases h)),k2,k3,k4,by simp only [Rep]⟩
 ·obtain ⟨h1,h2⟩:=hnil (by omega)
  subst h1
  exact ⟨_,m,.inl (hexec _ _ _ hv (fun a' _=>by simp [storeCells]) (fun h=>by cases h)),.refl m,.refl m,h2,by simp only [Rep]⟩
theorem awGuard.cpy {x y : Operand} {t u e : TypeId} {i ei : TI} {id off len id2 off2 len2 n sz : Nat} {es src : List (List AV)} {b : Bool} {c : Call} (hg : o.guard = none) (ho : o.op = .call c) (hc : c.callee = .builtin .copy) (ha : c.args = #[x,y]) (ht : c.argTypes = #[t,u]) (hi : tinfo P t = some i) (hk : i.k = .slice e) (hei : tinfo P e = some ei) (hsz : sz = ei.sz)
  (hx : evE σ x = some (ob,.row id off len)) (hob : ob) (hp : get σ.hp id = some (rowOf b sz es)) (hle : off + n ≤ es.length) (hy : evE σ y = some (ob'',.row id2 off2 len2)) (hq : ob'') (hn : n = min len2 len) (hs : fsrc σ.hp ei.sz (.row id2 off2 n) = some (ob',src)) (hob' : ob') (hd : dstOk σ.n o.dst = true)
  (hK : K (St.put ⟨σ.n,σ.env,set σ.hp id (rowOf b sz (splice es off src)),σ.nx,σ.gl,σ.np,σ.df⟩ o.dst (.int .i64 (n : Nat)))) : awGuard P ds o σ K Kp :=
 awGuard.effK ⟨True,.int .i64 (n : Nat),set σ.hp id (rowOf b sz (splice es off src)),σ.nx⟩ hg (by rw [ho]; simp only [pureOp,hc]) (by rw [ho]; simp only [effOp,hc]) hd (.inl (by rw [ho]; simp only [isEff,hc]))
  (fun m a hS=>copy_sound ho hc ha ht hi hk hei hsz hx hob hp hle hy hq hn hs hob' hS) hK
end
end Aw

namespace Aw
open Go
section
variable {P : Program} {ds : List (Option Tmp)} {σ : St} {o : Oper} {K : St → Prop} {Kp : AV → St → Prop} {ob ob' ob'' : Prop}

theorem fappIn_sound {x y : Operand} {t u e : TypeId} {i xi ei : TI} {id off len sz : Nat} {es src : List (List AV)} {c : Call} (ho : o.op = .call c) (hc : c.callee = .builtin .append) (ha : c.args = #[x,y]) (ht : c.argTypes = #[t,u]) (hi : tinfo P t = some i) (hk : i.k = .slice e) (hxi : tinfo P u = some xi) (hxk : isSrcK xi.k = true)
  (hei : tinfo P e = some ei) (hsz : sz = ei.sz) (hx : evE σ x = some (ob,.row id off len)) (hob : ob) (hp : get σ.hp id = some (.full sz es)) {q : Prop × AV} (hy : evE σ y = some q) (hq : q.1) (hs : fsrc σ.hp ei.sz q.2 = some (ob',src)) (hob' : ob') (hfit : off + len + src.length ≤ es.length) {m : Mem} {a : Act} (hS : Sim m a σ) :
  EffOk P m a o ⟨True,.row id off (len + src.length),set σ.hp id (.full sz (splice es (off + len) src)),σ.nx⟩:=by
 have hv:=evE_sound hS hx hob
 have hy':=evE_sound hS hy hq
 obtain ⟨g1,g2,vs,g3,g4,g5⟩:=fsrc_sound (P:=P) hS.h hs hob' hy'
 simp only [Rep] at hv
 obtain ⟨_,ri,hρ,hrow⟩:=hv
 obtain ⟨ri',hρ',hb⟩:=hS.h.blk id _ hp
 rw [hρ] at hρ'
 injection hρ' with hρ'
 subst hρ'
 obtain ⟨callee,args,argTypes⟩:=c
 simp only at hc ha ht
 subst hc ha ht
 have hexec : ∀ (sv r : Value) (w' : World),a.eval x = sv → (Builtin.append_ #[t,u] o.type #[sv,a.eval y]).run P m.w = .ok r w' → (execOp a.eval o).run P m.w = .ok (.value r) w':=by
  rintro _ r w' rfl h
  simp only [execOp,ho]
  show (do pure (Next.value (← Builtin.append_ #[t,u] o.type ((#[x,y] : Array Operand).map a.eval))) : Sem Next).run P m.w = _
  have e3 : (#[x,y] : Array Operand).map a.eval = #[a.eval x,a.eval y]:=by simp
  rw [e3]
  exact run_value h
 have hnil : src.length = 0 → vs = [] ∧ SimH m (set σ.hp id (.full sz (splice es (off + len) src))) σ.nx:=by
  intro h0
  have hs0 : src = []:=List.length_eq_zero_iff.1 h0
  subst hs0
  have : splice es (off + len) [] = es:=by simp [splice]
  rw [this]
  refine ⟨by have:=g3.length; simpa using this,SimH.congr ?_ hS.h⟩
  intro j
  rw [get_set]
  split
  ·rename_i e; subst e; exact hp.symm
  ·rfl
 rcases hrow with ⟨hn,rfl,rfl,hv⟩ | ⟨hn,hcap,hlt,hv⟩ | ⟨hn,rfl,rfl,A',hv⟩
 ·have hes : es = []:=by
   rcases hb.1 with h | h
   ·exact h.2
   ·rw [hn] at h; cases h.1
  subst hes
  have h0 : src.length = 0:=by simpa using hfit
  obtain ⟨h1,h2⟩:=hnil h0
  rw [h0] at g2 g5
  refine ⟨_,m,.inl (hexec _ _ _ hv (run_append_nil hi hk hxi hxk hei g2 (g5 m.w rfl))),.refl m,.refl m,h2,?_⟩
  simp only [Rep,true_and]
  exact ⟨ri,hρ,.inl ⟨hn,rfl,by rw [h0],rfl⟩⟩
 ·have hri : ri.sz = sz:=by
   rcases hb.1 with h | h
   ·rw [hn] at h; cases h.1
   ·exact h.2.2.1.2
  have hcc:=hb.2 hn
  obtain ⟨m',k1,k2,k3,k4⟩:=rset_sound (b:=true) hS.h hp hρ hn (k:=off + len) (new:=src) hfit (by rw [hri,hsz]; exact g1) g3 g4 P
  refine ⟨_,m',.inl (hexec _ _ _ hv (run_append_in hi hk hxi hxk hei g2 (by omega) (g5 m.w rfl) ?_)),k2,k3,k4,?_⟩
  ·rw [addr_add,← hsz,← hri,show ri.o + off * ri.sz + len * ri.sz = ri.o + (off + len) * ri.sz from by rw [Nat.add_mul]; omega]
   exact k1
  ·simp only [Rep,true_and]
   exact ⟨ri,k3.ρ _ _ hρ,.inr (.inl ⟨hn,by omega,hlt,rfl⟩)⟩
 ·have hcc:=hb.2 hn
  have h0 : src.length = 0:=by omega
  obtain ⟨h1,h2⟩:=hnil h0
  subst h1
  rw [h0] at g2 g5
  refine ⟨_,m,.inl (hexec _ _ _ hv (run_append_in hi hk hxi hxk hei g2 (by omega) (g5 m.w rfl) (by simp [storeCells]))),.refl m,.refl m,h2,?_⟩
  simp only [Rep,true_and]
  exact ⟨ri,hρ,.inr (.inr ⟨hn,rfl,by rw [h0],A',rfl⟩)⟩
theorem awGuard.fai {x y : Operand} {t u e : TypeId} {i xi ei : TI} {id off len sz : Nat} {es src : List (List AV)} {c : Call} {q : Prop × AV} (hg : o.guard = none) (ho : o.op = .call c) (hc : c.callee = .builtin .append) (ha : c.args = #[x,y]) (ht : c.argTypes = #[t,u]) (hi : tinfo P t = some i) (hk : i.k = .slice e) (hxi : tinfo P u = some xi) (hxk : isSrcK xi.k = true)
  (hei : tinfo P e = some ei) (hsz : sz = ei.sz) (hx : evE σ x = some (ob,.row id off len)) (hob : ob) (hp : get σ.hp id = some (.full sz es)) (hy : evE σ y = some q) (hq : q.1) (hs : fsrc σ.hp ei.sz q.2 = some (ob',src)) (hob' : ob') (hfit : off + len + src.length ≤ es.length) (hd : dstOk σ.n o.dst = true) (h2 : effOp P σ o.op = none)
  (hK : K (St.put ⟨σ.n,σ.env,set σ.hp id (.full sz (splice es (off + len) src)),σ.nx,σ.gl,σ.np,σ.df⟩ o.dst (.row id off (len + src.length)))) : awGuard P ds o σ K Kp :=
 awGuard.effK ⟨True,.row id off (len + src.length),set σ.hp id (.full sz (splice es (off + len) src)),σ.nx⟩ hg (by rw [ho]; simp only [pureOp,hc]) h2 hd (.inl (by rw [ho]; simp only [isEff,hc]))
  (fun m a hS=>fappIn_sound ho hc ha ht hi hk hxi hxk hei hsz hx hob hp hy hq hs hob' hfit hS) hK

theorem fclr_sound {x : Operand} {t e : TypeId} {i ei : TI} {id off len sz : Nat} {es : List (List AV)} {z : List AV} {c : Call} (ho : o.op = .call c) (hc : c.callee = .builtin .clear) (ha : c.args = #[x]) (ht : c.argTypes = #[t]) (hi : tinfo P t = some i) (hk : i.k = .slice e)
  (hei : tinfo P e = some ei) (hsz : sz = ei.sz) (hz : ei.zero = some z) (hzl : z.length = ei.sz) (hzo : z.all okCell = true) (hx : evE σ x = some (ob,.row id off len)) (hob : ob) (hp : get σ.hp id = some (.full sz es)) (hfit : off + len ≤ es.length) {m : Mem} {a : Act} (hS : Sim m a σ) :
  EffOk P m a o ⟨True,.tup [],set σ.hp id (.full sz (splice es off (rep len z))),σ.nx⟩:=by
 have hv:=evE_sound hS hx hob
 simp only [Rep] at hv
 obtain ⟨_,ri,hρ,hrow⟩:=hv
 obtain ⟨ri',hρ',hb⟩:=hS.h.blk id _ hp
 rw [hρ] at hρ'
 injection hρ' with hρ'
 subst hρ'
 obtain ⟨callee,args,argTypes⟩:=c
 simp only at hc ha ht
 subst hc ha ht
 obtain ⟨ti',hti',hts,htb,hzz⟩:=run_typeInfo_ti (w:=m.w) hei
 rw [hz] at hzz
 obtain ⟨zv,hzv,hzc⟩ : ∃ zv,ti'.zero = some zv ∧ z = zv.cells.toList.map constAV:=by
  cases h : ti'.zero with
  | none=>rw [h] at hzz; cases hzz
  | some zv=>rw [h] at hzz; exact ⟨zv,rfl,by simpa using hzz⟩
 have hzr : (zeroValue e).run P m.w = .ok zv m.w:=by unfold zeroValue; rw [run_bind hti']; simp only [hzv] <;> rfl
 have hcell : (Builtin.zeroCells zv.cells len).toList = (rep len zv.cells.toList).flatten:=by
  simp only [Builtin.zeroCells]
  rw [← map_range_mod,Array.toList_map,Array.toList_range]
 have hL : ∀ m : Mem,RepL m 2 (rep len z).flatten (rep len zv.cells.toList).flatten:=fun m=>(by rw [hzc]; exact (RepL.const _).rep _)
 have hall : ∀ e ∈ rep len z,e.length = ei.sz:=fun e he=>by simp only [rep,List.mem_replicate] at he; rw [he.2,hzl]
 have hone : ∀ u ∈ (rep len zv.cells.toList).flatten,isOne u = true:=by
  refine (hL m).isOne fun x hx=>?_
  obtain ⟨l,hl,hxl⟩:=List.mem_flatten.1 hx
  simp only [rep,List.mem_replicate] at hl
  rw [hl.2] at hxl
  exact List.all_eq_true.1 hzo x hxl
 have hrl : (rep len z).length = len:=by simp [rep]
 have hexec : ∀ (sv : Value) (w' : World),a.eval x = sv → (Builtin.clear_ #[t] o.type #[sv]).run P m.w = .ok (.tuple #[]) w' → (execOp a.eval o).run P m.w = .ok (.value (.tuple #[])) w':=by
  rintro _ w' rfl h
  simp only [execOp,ho]
  show (do pure (Next.value (← Builtin.clear_ #[t] o.type ((#[x] : Array Operand).map a.eval))) : Sem Next).run P m.w = _
  have e3 : (#[x] : Array Operand).map a.eval = #[a.eval x]:=by simp
  rw [e3]
  exact run_value h
 have e1 : (#[t] : Array TypeId)[0]? = some t:=rfl
 have htup : ∀ m' : Mem,Rep m' 0 (.tup []) (.tuple #[]):=fun m'=>by simp only [Rep]; exact ⟨#[],rfl,by simp [RepL]⟩
 have hnil : len = 0 → SimH m (set σ.hp id (.full sz (splice es off (rep len z)))) σ.nx:=by
  intro h0
  subst h0
  have : splice es off (rep 0 z) = es:=by simp [splice,rep]
  rw [this]
  refine SimH.congr ?_ hS.h
  intro j
  rw [get_set]
  split
  ·rename_i e; subst e; exact hp.symm
  ·rfl
 rcases hrow with ⟨hn,rfl,rfl,hv⟩ | ⟨hn,hcap,hlt,hv⟩ | ⟨hn,rfl,rfl,A',hv⟩
 ·refine ⟨_,m,.inl (hexec _ _ hv ?_),.refl m,.refl m,hnil rfl,htup m⟩
  have e2 : (#[Value.slice none 0 0] : Array Value)[0]? = some (.slice none 0 0):=rfl
  simp only [Builtin.clear_,e1,e2,Sem.run_bind,run_slice_ti hi hk,Result.andThen_ok,Sem.run_pure]
 ·by_cases h0 : len = 0
  ·refine ⟨_,m,.inl (hexec _ _ hv ?_),.refl m,.refl m,hnil h0,htup m⟩
   subst h0
   have e2 : (#[Value.slice (some ⟨ri.b,ri.o + off * ri.sz,none⟩) 0 (ri.cap - off)] : Array Value)[0]? = some (.slice (some ⟨ri.b,ri.o + off * ri.sz,none⟩) 0 (ri.cap - off)):=rfl
   simp only [Builtin.clear_,e1,e2,Sem.run_bind,run_slice_ti hi hk,Result.andThen_ok,Sem.run_pure]
  ·have hri : ri.sz = sz:=by
    rcases hb.1 with h | h
    ·rw [hn] at h; cases h.1
    ·exact h.2.2.1.2
   obtain ⟨m',k1,k2,k3,k4⟩:=rset_sound (b:=true) hS.h hp hρ hn (k:=off) (new:=rep len z) (by rw [hrl]; exact hfit) (by rw [hri,hsz]; exact hall) (hL m) hone P
   refine ⟨_,m',.inl (hexec _ _ hv ?_),k2,k3,k4,htup m'⟩
   obtain ⟨len',rfl⟩ : ∃ l,len = l + 1:=⟨len - 1,by omega⟩
   have e2 : (#[Value.slice (some ⟨ri.b,ri.o + off * ri.sz,none⟩) (len' + 1) (ri.cap - off)] : Array Value)[0]? = some (.slice (some ⟨ri.b,ri.o + off * ri.sz,none⟩) (len' + 1) (ri.cap - off)):=rfl
   simp only [Builtin.clear_,e1,e2,Sem.run_bind,run_slice_ti hi hk,Result.andThen_ok,Sem.run_pure,hzr,hcell,k1]
 ·refine ⟨_,m,.inl (hexec _ _ hv ?_),.refl m,.refl m,hnil rfl,htup m⟩
  have e2 : (#[Value.slice (some A') 0 0] : Array Value)[0]? = some (.slice (some A') 0 0):=rfl
  simp only [Builtin.clear_,e1,e2,Sem.run_bind,run_slice_ti hi hk,Result.andThen_ok,Sem.run_pure]
theorem awGuard.fcl {x : Operand} {t e : TypeId} {i ei : TI} {id off len sz : Nat} {es : List (List AV)} {z : List AV} {c : Call} (hg : o.guard = none) (ho : o.op = .call c) (hc : c.callee = .builtin .clear) (ha : c.args = #[x]) (ht : c.argTypes = #[t]) (hi : tinfo P t = some i) (hk : i.k = .slice e)
  (hei : tinfo P e = some ei) (hsz : sz = ei.sz) (hz : ei.zero = some z) (hzl : z.length = ei.sz) (hzo : z.all okCell = true) (hx : evE σ x = some (ob,.row id off len)) (hob : ob) (hp : get σ.hp id = some (.full sz es)) (hfit : off + len ≤ es.length) (hd : dstOk σ.n o.dst = true)
  (hK : K (St.put ⟨σ.n,σ.env,set σ.hp id (.full sz (splice es off (rep len z))),σ.nx,σ.gl,σ.np,σ.df⟩ o.dst (.tup []))) : awGuard P ds o σ K Kp :=
 awGuard.effK ⟨True,.tup [],set σ.hp id (.full sz (splice es off (rep len z))),σ.nx⟩ hg (by rw [ho]; simp only [pureOp,hc]) (by rw [ho]; simp only [effOp,hc]) hd (.inl (by rw [ho]; simp only [isEff,hc]))
  (fun m a hS=>fclr_sound ho hc ha ht hi hk hei hsz hz hzl hzo hx hob hp hfit hS) hK

/-! ### an append of so many zeros, beyond the room -/
theorem run_appendZ_grow {w : World} {sT xT ty et : TypeId} {ti xi ei : TI} {base : Option Addr} {sLen sCap n : Nat} {ki : IntKind} (hti : tinfo P sT = some ti) (hk : ti.k = .slice et) (hxi : tinfo P xT = some xi) (hxk : xi.k = .int ki) (hei : tinfo P et = some ei)
  (hn0 : 1 ≤ n) (hsz0 : 1 ≤ ei.sz) (hnn : (n : Int) ≤ 9223372036854775807) (h : ¬ sLen + n ≤ sCap) (hb : 1 ≤ ei.bytes) (hb' : ei.bytes ≤ 4294967296) (hr : room (sLen + n) ei.bytes)
  {z : Value} (hzz : ∀ w',(zeroValue et).run P w' = .ok z w') {old : Array Value}
  (ho : ∀ w',w'.heap = w.heap → (Builtin.firstCells ei.sz sLen (.slice base sLen sCap)).run P w' = .ok old w') :
  ∃ (w' : World) (cap : Nat),sLen + n ≤ cap ∧ Alloc w w' (.cells (old ++ Builtin.zeroCells z.cells n ++ Builtin.zeroCells z.cells (cap - (sLen + n))) et (0,0)) ∧
   (Builtin.append_ #[sT,xT] ty #[.slice base sLen sCap,.int .i64 n]).run P w = .ok (.slice (some ⟨w.heap.size,0,none⟩) (sLen + n) cap) w':=by
 have e1 : (#[sT,xT] : Array TypeId)[0]? = some sT:=rfl
 have e2 : (#[sT,xT] : Array TypeId)[1]? = some xT:=rfl
 have e3 : (#[.slice base sLen sCap,.int .i64 (n : Int)] : Array Value)[0]? = some (.slice base sLen sCap):=rfl
 have e4 : (#[.slice base sLen sCap,.int .i64 (n : Int)] : Array Value)[1]? = some (.int .i64 (n : Int)):=rfl
 obtain ⟨d,hd,hdk⟩:=run_underlying_ti (w:=w) hxi
 rw [hxk] at hdk
 obtain ⟨t',ht',_,htb,_⟩:=run_typeInfo_ti (w:=w) hei
 have htb' : ∀ w' : World,(typeInfo et).run P w' = .ok t' w':=by
  intro w'
  obtain ⟨t'',h1,_,h2,_⟩:=run_typeInfo_ti (w:=w') hei
  unfold typeInfo at *
  simp only [program,bind,Sem.bind,Sem.run] at *
  split at ht'
  ·rename_i x hx
   simp only [Sem.run_pure,Result.ok.injEq,and_true] at ht'
   simp only [Sem.run_pure,ht']
  ·cases ht'
 unfold room at hr
 have hcap:=nextslicecap_le (n:=sLen + n) (c:=sCap) (by omega)
 have hmul : Builtin.nextslicecap (sLen + n) sCap * ei.bytes ≤ (2 * (sLen + n) + 192) * ei.bytes:=Nat.mul_le_mul_right _ hcap
 have hexp : (2 * (sLen + n) + 192) * ei.bytes = 2 * ((sLen + n) * ei.bytes) + 192 * ei.bytes:=by rw [Nat.add_mul,Nat.mul_assoc]
 have hexp2 : (sLen + n) * ei.bytes = sLen * ei.bytes + n * ei.bytes:=Nat.add_mul _ _ _
 have hle : sLen + n ≤ (sLen + n) * ei.bytes:=Nat.le_mul_of_pos_right _ hb
 let q : Question:=.appendCap (sLen + n) sCap et
 let cap:=q.cut (w.tape w.drawn q)
 let w1 : World:={ w with drawn:=w.drawn + 1 }
 have hch : (choose q).run P w = .ok cap w1:=by
  simp only [choose,Sem.run]
  rw [if_neg (by simp [q,Question.forced])]
 refine ⟨{ w1 with heap:=w1.heap.push (.cells (old ++ Builtin.zeroCells z.cells n ++ Builtin.zeroCells z.cells (cap - (sLen + n))) et) },cap,?_,⟨rfl,rfl,rfl,rfl⟩,?_⟩
 ·simp only [cap,q,Question.cut]; omega
 ·have c0 : IntKind.i64.wrap (n : Int) = n:=IntWalk.i64_in _ ⟨by omega,hnn⟩
  have c1 : ¬ ((((sLen + n : Nat) : Int) > IntKind.i64.max) ∧ (True ∨ ei.bytes = 0)):=by
   rintro ⟨h,_⟩
   have : IntKind.i64.max = 9223372036854775807:=by decide
   omega
  have c2 : ¬ (Builtin.nextslicecap (sLen + n) sCap * ei.bytes > 2 ^ 48):=by omega
  have c3 : ¬ ((n : Int) < 0):=by omega
  have c4 : ¬ ((n : Int) * (ei.bytes : Int) > 2 ^ 48):=by
   have h0 : n * ei.bytes ≤ 70368744177664:=by omega
   have h1 : ((n * ei.bytes : Nat) : Int) ≤ ((70368744177664 : Nat) : Int):=Int.ofNat_le.2 h0
   rw [Int.natCast_mul] at h1
   omega
  have c5 : ¬ (n * ei.sz = 0):=by
   have : 1 * 1 ≤ n * ei.sz:=Nat.mul_le_mul hn0 hsz0
   omega
  have easInt : ∀ w : World,(asInt (.int .i64 (n : Int))).run P w = .ok (n : Int) w:=fun w=>rfl
  cases d <;> simp only [tkOf,reduceCtorEq,TK.int.injEq] at hdk
  simp only [Builtin.append_,e1,e2,e3,e4,Sem.run_bind,run_slice_ti hti hk,Result.andThen_ok,run_sizeOf_ti hei,hd,Sem.run_pure,if_true,easInt,c0,if_neg c3,htb' w,htb,if_neg c4,Int.toNat_natCast,if_neg h,htb' w1,
   if_neg c1,if_neg c2,hch,run_askRoom,ho w1 rfl,Bool.not_true,Bool.false_eq_true,if_false,if_neg c5,hzz,run_newRow,w1,q]
theorem fappZ_sound {x y : Operand} {t u e : TypeId} {i xi ei : TI} {id off len sz n : Nat} {es : List (List AV)} {z : List AV} {ki : IntKind} {c : Call} (ho : o.op = .call c) (hc : c.callee = .builtin .append) (ha : c.args = #[x,y]) (ht : c.argTypes = #[t,u]) (hi : tinfo P t = some i) (hk : i.k = .slice e) (hxi : tinfo P u = some xi) (hxk : xi.k = .int ki)
  (hei : tinfo P e = some ei) (hsz : sz = ei.sz) (hsz0 : 1 ≤ ei.sz) (hb : 1 ≤ ei.bytes) (hb' : ei.bytes ≤ 4294967296) (hz : ei.zero = some z) (hzl : z.length = ei.sz) (hx : evE σ x = some (ob,.row id off len)) (hob : ob) (hp : get σ.hp id = some (.full sz es)) (hy : evE σ y = some (ob'',.int .i64 n)) (hq : ob'')
  (hn0 : 1 ≤ n) (hfit : off + len ≤ es.length) (hfull : es.length < off + len + n) (hr : room (len + n) ei.bytes) {m : Mem} {a : Act} (hS : Sim m a σ) :
  EffOk P m a o ⟨True,.row σ.nx 0 (len + n),set σ.hp σ.nx (.row ei.sz ((es.drop off).take len ++ rep n z) true),σ.nx + 1⟩:=by
 have hv:=evE_sound hS hx hob
 have hy':=evE_sound hS hy hq
 simp only [Rep] at hy'
 obtain ⟨A,hvs,hle⟩:=full_cap hS.h hp hv
 obtain ⟨callee,args,argTypes⟩:=c
 simp only at hc ha ht
 subst hc ha ht
 obtain ⟨ti',hti',hts,htb,hzz⟩:=run_typeInfo_ti (w:=m.w) hei
 rw [hz] at hzz
 obtain ⟨zv,hzv,hzc⟩ : ∃ zv,ti'.zero = some zv ∧ z = zv.cells.toList.map constAV:=by
  cases h : ti'.zero with
  | none=>rw [h] at hzz; cases hzz
  | some zv=>rw [h] at hzz; exact ⟨zv,rfl,by simpa using hzz⟩
 have hzr : (zeroValue e).run P m.w = .ok zv m.w:=by unfold zeroValue; rw [run_bind hti']; simp only [hzv] <;> rfl
 have hzs : zv.cells.size = ei.sz:=by rw [← hzl,hzc]; simp
 have hlv : ((es.drop off).take len).length = len:=by simp; omega
 -- what was there
 obtain ⟨vs0,q0,q1,q2⟩ : ∃ vs0 : List Value,(∀ e ∈ (es.drop off).take len,e.length = ei.sz) ∧ RepL m 2 ((es.drop off).take len).flatten vs0 ∧ ∀ w' : World,w'.heap = m.w.heap → (Builtin.firstCells ei.sz len (a.eval x)).run P w' = .ok vs0.toArray w':=by
  simp only [Rep] at hv
  obtain ⟨_,ri,hρ,hrow⟩:=hv
  obtain ⟨ri',hρ',hbk⟩:=hS.h.blk id _ hp
  rw [hρ] at hρ'
  injection hρ' with hρ'
  subst hρ'
  have hzero : len = 0 → ∀ v : Value,(∃ A n c,v = .slice A n c) → ∃ vs0 : List Value,(∀ e ∈ (es.drop off).take len,e.length = ei.sz) ∧ RepL m 2 ((es.drop off).take len).flatten vs0 ∧ ∀ w' : World,w'.heap = m.w.heap → (Builtin.firstCells ei.sz len v).run P w' = .ok vs0.toArray w':=by
   rintro rfl v ⟨A,n,c,rfl⟩
   exact ⟨[],fun e he=>by simp at he,by simp [RepL],fun w' _=>by simpa using firstCells_zero⟩
  rcases hrow with ⟨hn,rfl,rfl,hv⟩ | ⟨hn,hcap,hlt,hv⟩ | ⟨hn,rfl,rfl,A',hv⟩
  ·exact hzero rfl _ ⟨_,_,_,hv⟩
  ·rcases hbk.1 with h | ⟨_,_,⟨_,h3⟩,_,_,hif⟩
   ·rw [hn] at h; cases h.1
   rw [if_pos rfl] at hif
   have hYv:=(hif.1.drop off).take len
   obtain ⟨vs0,q1,q2⟩:=firstCells_of (P:=P) (c:=ri.cap - off) hYv
   rw [hlv] at q2
   have hsz' : ri.sz = ei.sz:=h3.trans hsz
   refine ⟨vs0,by rw [← hsz']; exact (RepY.flat.1 hYv).1,q1,fun w' hw=>?_⟩
   rw [hv,← hsz']
   exact q2 w' hw len
  ·exact hzero rfl _ ⟨_,_,_,hv⟩
 unfold room at hr
 have hle1 : len + n ≤ (len + n) * ei.bytes:=Nat.le_mul_of_pos_right _ hb
 obtain ⟨w',cap,c1,c2,c3⟩:=run_appendZ_grow (P:=P) (w:=m.w) (ty:=o.type) (base:=A) (sLen:=len) (sCap:=es.length - off) (n:=n) hi hk hxi hxk hei hn0 hsz0 (by omega) (by omega) hb hb' hr (zero_any hzr)
  (old:=vs0.toArray) (fun w' hw=>by rw [← hvs]; exact q2 w' hw)
 have hcell : (Builtin.zeroCells zv.cells n).toList = (rep n zv.cells.toList).flatten:=by
  simp only [Builtin.zeroCells]
  rw [← map_range_mod,Array.toList_map,Array.toList_range]
 have hnl : (rep n z).length = n:=by simp [rep]
 obtain ⟨m',k1,k2,k3,k4,k5⟩:=grow_new hS.h (es1:=(es.drop off).take len) (es2:=rep n z) (olds:=vs0) (news:=(rep n zv.cells.toList).flatten) (z:=zv) (et:=e) (sz:=ei.sz) (cap:=cap) true hsz0 hzs q0
  (fun e he=>by simp only [rep,List.mem_replicate] at he; rw [he.2,hzl]) q1 (by rw [hzc]; exact (RepL.const _).rep _) (by rw [hlv,hnl]; exact c1) (by
   rw [hlv,hnl]
   have : (rep n zv.cells.toList).flatten.toArray = Builtin.zeroCells zv.cells n:=by rw [← hcell]
   rw [this]
   exact c2)
 rw [hlv,hnl] at k5
 refine ⟨_,m',.inl ?_,k2,k3,k4,k5⟩
 simp only [execOp,ho]
 show (do pure (Next.value (← Builtin.append_ #[t,u] o.type ((#[x,y] : Array Operand).map a.eval))) : Sem Next).run P m.w = _
 have e3 : (#[x,y] : Array Operand).map a.eval = #[a.eval x,a.eval y]:=by simp
 rw [e3,hvs,hy',k1]
 exact run_value c3
theorem awGuard.faz {x y : Operand} {t u e : TypeId} {i xi ei : TI} {id off len sz n : Nat} {es : List (List AV)} {z : List AV} {ki : IntKind} {c : Call} (hg : o.guard = none) (ho : o.op = .call c) (hc : c.callee = .builtin .append) (ha : c.args = #[x,y]) (ht : c.argTypes = #[t,u]) (hi : tinfo P t = some i) (hk : i.k = .slice e) (hxi : tinfo P u = some xi) (hxk : xi.k = .int ki)
  (hei : tinfo P e = some ei) (hsz : sz = ei.sz) (hsz0 : 1 ≤ ei.sz) (hb : 1 ≤ ei.bytes) (hb' : ei.bytes ≤ 4294967296) (hz : ei.zero = some z) (hzl : z.length = ei.sz) (hx : evE σ x = some (ob,.row id off len)) (hob : ob) (hp : get σ.hp id = some (.full sz es)) (hy : evE σ y = some (ob'',.int .i64 n)) (hq : ob'')
  (hn0 : 1 ≤ n) (hfit : off + len ≤ es.length) (hfull : es.length < off + len + n) (hr : room (len + n) ei.bytes) (hd : dstOk σ.n o.dst = true) (h2 : effOp P σ o.op = none)
  (hK : K (St.put ⟨σ.n,σ.env,set σ.hp σ.nx (.row ei.sz ((es.drop off).take len ++ rep n z) true),σ.nx + 1,σ.gl,σ.np,σ.df⟩ o.dst (.row σ.nx 0 (len + n)))) : awGuard P ds o σ K Kp :=
 awGuard.effK ⟨True,.row σ.nx 0 (len + n),set σ.hp σ.nx (.row ei.sz ((es.drop off).take len ++ rep n z) true),σ.nx + 1⟩ hg (by rw [ho]; simp only [pureOp,hc]) h2 hd (.inl (by rw [ho]; simp only [isEff,hc]))
  (fun m a hS=>fappZ_sound ho hc ha ht hi hk hxi hxk hei hsz hsz0 hb hb' hz hzl hx hob hp hy hq hn0 hfit hfull hr hS) hK
end
end Aw

namespace Aw
open Go
theorem run_overlaps_zero {P : Program} (w : World) (tS tR e : TypeId) (ht : P.underlying tS = some (.slice e)) (size : Nat) (hz : ∀ w,(Go.sizeOf e).run P w = .ok size w) (A B : Option Addr) (la ca lb cb : Nat) (h : A = none ∨ B = none ∨ la = 0 ∨ lb = 0) :
  (Extern.SlicesOverlaps.overlaps #[tS,tS] #[tR] #[.slice A la ca,.slice B lb cb]).run P w = .ok (.bool false) w:=by
 change Sem.run P (α:=Value) (do
  let some t := (#[tS, tS] : Array TypeId)[0]? | stuck "slices.overlaps: no parameter types"
  let .slice elem ← underlying t | stuck "slices.overlaps: slice type expected"
  let size ← sizeOf elem
  match A,B with
  | some a,some b =>
   if la = 0 ∨ lb = 0 ∨ size = 0 then pure (Value.bool false)
   else if a.block != b.block && (← frozen a) && (← frozen b) then unsupported .addressObserved
   else do
    if a.block != b.block then do
     noView a; noView b
     if ← mayBeOne a b then return Value.bool ((← choose (.extern "sameAddr.stringBytes" 2)) == 1)
    pure (Value.bool (a.block == b.block && a.off < b.off + lb * size && b.off < a.off + la * size))
  | _,_=>pure (Value.bool false)) w = _
 cases A with
 | none=>simp [run_underlying ht,hz]
 | some a=>cases B with
  | none=>simp [run_underlying ht,hz]
  | some b =>
   have h0 : la = 0 ∨ lb = 0 ∨ size = 0:=by
    rcases h with h | h | h | h
    ·cases h
    ·cases h
    ·exact .inl h
    ·exact .inr (.inl h)
   simp [run_underlying ht,hz,h0]
section
variable {P : Program} {ds : List (Option Tmp)} {σ : St} {o : Oper} {K : St → Prop} {Kp : AV → St → Prop} {ob ob' ob'' : Prop}
theorem ovl_sound {f : FuncId} {fn : Func} {tS tR e : TypeId} {ei : TI} {id off len sz id2 off2 len2 : Nat} {es es2 : List (List AV)} (h : acall σ o.op = some (ob, f, [.row id off len, .row id2 off2 len2])) (hob : ob) (hf : P.funcs[f]? = some fn) (hname : (fn.name == "runtime.NumGoroutine") = false)
  (hb : fn.body.isNone = true) (hn : Extern.findNext fn = none) (he : Extern.find fn = some (Extern.SlicesOverlaps.overlaps #[tS,tS] #[tR])) (ht : P.underlying tS = some (.slice e)) (hei : tinfo P e = some ei)
  (hp : get σ.hp id = some (.row sz es true)) (hp2 : get σ.hp id2 = some (.full sz es2)) (hne : id ≠ id2) (hle : off + len ≤ es.length) {m : Mem} {a : Act} (hS : Sim m a σ) : EffOk P m a o ⟨True,.bool false,σ.hp,σ.nx⟩:=by
 obtain ⟨vs,hexec,hvs⟩:=acall_sound hS h hob
 simp only [RepL] at hvs
 obtain ⟨v1,_,rfl,h1,v2,_,rfl,h2,rfl⟩:=hvs
 refine ⟨.bool false,m,.inl ?_,.refl m,.refl m,hS.h,by simp only [Rep]⟩
 rw [hexec,run_callFunc_extern hf hname hb hn he]
 simp only [Rep] at h1 h2
 obtain ⟨_,ri,hρ,hrow⟩:=h1
 obtain ⟨_,ri2,hρ2,hrow2⟩:=h2
 have hz : ∀ w,(Go.sizeOf e).run P w = .ok ei.sz w:=fun w=>run_sizeOf_ti hei
 have hval : ∀ r,r = (Result.ok (Value.bool false) m.w : Result Value) → (Result.andThen r fun (v : Value) (w : World)=>(pure (Next.value v) : Sem Next).run P w) = .ok (.value (.bool false)) m.w:=by rintro _ rfl; rfl
 suffices hs : (Extern.SlicesOverlaps.overlaps #[tS,tS] #[tR] [v1,v2].toArray).run P m.w = .ok (.bool false) m.w by
  rw [hs] <;> rfl
 show (Extern.SlicesOverlaps.overlaps #[tS,tS] #[tR] #[v1,v2]).run P m.w = .ok (.bool false) m.w
 rcases hrow with ⟨_,rfl,rfl,rfl⟩ | ⟨hn1,hcap,hlt,rfl⟩ | ⟨_,rfl,rfl,A',rfl⟩
 ·rcases hrow2 with ⟨_,rfl,rfl,rfl⟩ | ⟨_,_,_,rfl⟩ | ⟨_,rfl,rfl,A',rfl⟩ <;> exact run_overlaps_zero m.w tS tR e ht ei.sz hz _ _ _ _ _ _ (.inl rfl)
 ·rcases hrow2 with ⟨_,rfl,rfl,rfl⟩ | ⟨hn2,hcap2,hlt2,rfl⟩ | ⟨_,rfl,rfl,A',rfl⟩
  ·exact run_overlaps_zero m.w tS tR e ht ei.sz hz _ _ _ _ _ _ (.inr (.inl rfl))
  ·by_cases h0 : len = 0
   ·exact run_overlaps_zero m.w tS tR e ht ei.sz hz _ _ _ _ _ _ (.inr (.inr (.inl h0)))
   obtain ⟨ri',hρ',hbk⟩:=hS.h.blk id _ hp
   rw [hρ] at hρ'
   injection hρ' with hρ'
   subst hρ'
   obtain ⟨ri2',hρ2',hbk2,_⟩:=hS.h.blk id2 _ hp2
   rw [hρ2] at hρ2'
   injection hρ2' with hρ2'
   subst hρ2'
   have hap:=hS.h.apart id id2 _ _ ri ri2 hp hp2 hρ hρ2 hne hn1 hn2
   rcases hbk with h | ⟨_,_,⟨g1,g2⟩,g3,⟨c,T,lo,hi,k1,k2,k3⟩,_⟩
   ·rw [hn1] at h; cases h.1
   rcases hbk2 with h | ⟨_,_,⟨g1',g2'⟩,g3',⟨c',T',lo',hi',k1',k2',k3'⟩,_⟩
   ·rw [hn2] at h; cases h.1
   have hcs : ri.o + off * ri.sz < c.size:=by
    have e1 : ri.cap * ri.sz = off * ri.sz + (1 * ri.sz + (ri.cap - off - 1) * ri.sz):=by rw [← Nat.add_mul,← Nat.add_mul]; congr 1; omega
    omega
   have hcs' : c'.size ≠ 0:=by
    have e1 : ri2.cap * ri2.sz = off2 * ri2.sz + (1 * ri2.sz + (ri2.cap - off2 - 1) * ri2.sz):=by rw [← Nat.add_mul,← Nat.add_mul]; congr 1; omega
    omega
   rw [if_pos rfl] at k2
   refine Lib.run_overlaps_apart m.w tS tR e ht ei.sz hz _ _ _ _ _ _ hap T T' c.size c'.size (by simp [World.shape?,k1]) (by simp [World.shape?,k1']) hcs' ?_ ?_
   ·simp only [World.frozen?,k1]
    have:=k2 (ri.o + off * ri.sz) (by omega)
    simp only [Bool.and_eq_false_iff,decide_eq_false_iff_not]
    omega
   ·simp only [World.frozen?,k1]
    have:=k2 c.size (by omega)
    simp only [Bool.and_eq_false_iff,decide_eq_false_iff_not]
    omega
  ·exact run_overlaps_zero m.w tS tR e ht ei.sz hz _ _ _ _ _ _ (.inr (.inr (.inr rfl)))
 ·rcases hrow2 with ⟨_,rfl,rfl,rfl⟩ | ⟨_,_,_,rfl⟩ | ⟨_,rfl,rfl,A',rfl⟩ <;> exact run_overlaps_zero m.w tS tR e ht ei.sz hz _ _ _ _ _ _ (.inr (.inr (.inl rfl)))
theorem awGuard.ovl {f : FuncId} {fn : Func} {tS tR e : TypeId} {ei : TI} {id off len sz id2 off2 len2 : Nat} {es es2 : List (List AV)} (hf : P.funcs[f]? = some fn) (hg : o.guard = none) (h : acall σ o.op = some (ob, f, [.row id off len, .row id2 off2 len2])) (hob : ob) (hname : (fn.name == "runtime.NumGoroutine") = false)
  (hb : fn.body.isNone = true) (hn : Extern.findNext fn = none) (he : Extern.find fn = some (Extern.SlicesOverlaps.overlaps #[tS,tS] #[tR])) (ht : P.underlying tS = some (.slice e)) (hei : tinfo P e = some ei)
  (hp : get σ.hp id = some (.row sz es true)) (hp2 : get σ.hp id2 = some (.full sz es2)) (hne : id ≠ id2) (hle : off + len ≤ es.length) (hd : dstOk σ.n o.dst = true) (hK : K (σ.put o.dst (.bool false))) : awGuard P ds o σ K Kp :=
 awGuard.effK ⟨True,.bool false,σ.hp,σ.nx⟩ hg (acall_pure h).1 (acall_pure (P:=P) (g:=true) h).2 hd (.inr ⟨rfl,rfl⟩) (fun _ _ hS=>ovl_sound h hob hf hname hb hn he ht hei hp hp2 hne hle hS) hK
end

theorem St.le.renum {σ : St} (t : Nat) {id off len : Nat} {blk : ABlk} (h : get σ.env t = some (.row id off len)) (hg : get σ.hp id = some blk) :
  St.le ⟨σ.n,set σ.env t (.row σ.nx off len),set (del σ.hp id) σ.nx blk,σ.nx + 1,σ.gl,σ.np,σ.df⟩ σ:=by
 intro m a hS
 obtain ⟨ri,hρ,hb⟩:=hS.h.blk id _ hg
 have hlt : id < σ.nx:=by
  rcases Nat.lt_or_ge id σ.nx with h | h
  ·exact h
  ·rw [hS.h.fresh id h] at hρ; cases hρ
 let m' : Mem:={ m with ρ:=fun i=>if i = σ.nx then some ri else m.ρ i }
 have hρ' : ∀ i r,m.ρ i = some r → m'.ρ i = some r:=by
  intro i r hr
  show (if i = σ.nx then some ri else m.ρ i) = some r
  by_cases e : i = σ.nx
  ·subst e; rw [hS.h.fresh _ (Nat.le_refl _)] at hr; cases hr
  ·rw [if_neg e]; exact hr
 have hnew : m'.ρ σ.nx = some ri:=by show (if σ.nx = σ.nx then some ri else _) = _; rw [if_pos rfl]
 have hk : m.keeps m':=⟨rfl,fun _ h=>h,fun _ _=>rfl,fun _ _ h=>h,fun _ _ _=>rfl,hρ'⟩
 have hl : m.le m':=⟨rfl,rfl,rfl,Nat.le_refl _,rfl,fun _ _=>rfl,fun _ _ h=>h,fun _ _ _=>rfl,fun _ _ _ h=>h,rfl,fun id ri _ hr=>hρ' id ri hr⟩
 have hH : SimH m' (set (del σ.hp id) σ.nx blk) (σ.nx + 1):=by
  refine ⟨?_,?_,?_,hS.h.Fold,hS.h.Pold⟩
  ·intro i x hx
   rw [get_set] at hx
   split at hx
   ·rename_i e
    injection hx with hx
    subst e hx
    exact ⟨ri,hnew,hb.mono hk (fun h=>h) (fun _ h=>h) (fun _=>rfl)⟩
   ·rw [get_del] at hx
    split at hx
    ·cases hx
    ·obtain ⟨r,hr,hbr⟩:=hS.h.blk i x hx
     exact ⟨r,hρ' _ _ hr,hbr.mono hk (fun h=>h) (fun _ h=>h) (fun _=>rfl)⟩
  ·-- apart
   have key : ∀ i x r,get (set (del σ.hp id) σ.nx blk) i = some x → m'.ρ i = some r → ∃ j y,get σ.hp j = some y ∧ m.ρ j = some r ∧ (i = σ.nx ∧ j = id ∨ i ≠ σ.nx ∧ j = i ∧ i ≠ id):=by
    intro i x r hx hr
    rw [get_set] at hx
    split at hx
    ·rename_i e
     subst e
     rw [hnew] at hr
     injection hr with hr
     subst hr
     exact ⟨id,_,hg,hρ,.inl ⟨rfl,rfl⟩⟩
    ·rename_i e
     rw [get_del] at hx
     split at hx
     ·cases hx
     ·rename_i e2
      obtain ⟨r0,hr0,_⟩:=hS.h.blk i x hx
      have:=hρ' _ _ hr0
      rw [hr] at this
      injection this with this
      subst this
      exact ⟨i,x,hx,hr0,.inr ⟨Ne.symm e,rfl,Ne.symm e2⟩⟩
   intro i i' x x' r r' hx hx' hr hr' hne hn hn'
   obtain ⟨j,y,g1,g2,g3⟩:=key i x r hx hr
   obtain ⟨j',y',g1',g2',g3'⟩:=key i' x' r' hx' hr'
   refine hS.h.apart j j' y y' r r' g1 g1' g2 g2' ?_ hn hn'
   omega
  ·intro i hi
   show (if i = σ.nx then some ri else m.ρ i) = none
   rw [if_neg (by omega)]
   exact hS.h.fresh i (by omega)
 refine ⟨m',rfl,hl,?_⟩
 have hS':=hS.of hk hH
 refine ⟨hH,hS'.n,hS'.defers,?_,hS'.gl,hS'.np⟩
 intro i x hx
 simp only [get_set] at hx
 split at hx
 ·rename_i e
  injection hx with hx
  subst e hx
  obtain ⟨g1,g2⟩:=hS.env _ _ h
  refine ⟨g1,?_⟩
  simp only [Rep] at g2 ⊢
  obtain ⟨_,r,hr,hrow⟩:=g2
  rw [hρ] at hr
  injection hr with hr
  subst hr
  exact ⟨trivial,ri,hnew,hrow⟩
 ·exact hS'.env i x hx
end Aw
