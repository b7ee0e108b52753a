/- Rules of a calculus of walks: no condition of its own. -/
import Derived.Test.YtlamdhcfojligaaGreatCore11
import Derived.Lib.Overlaps
import Derived.IntWalk
namespace Aw
open Go
attribute [go_sem] Option.isNone_none Option.isNone_some Option.isSome_some Option.isSome_none
section
variable {P : Program} {ds : List (Option Tmp)} {fn : Func} {σ σ' : St} {Q : AX → St → Prop} {R : AE → Prop} {y : Code} {id : Nat} {ops : Array Oper} {o : Oper} {K : St → Prop} {Kp : AV → St → Prop} {ob ob' : Prop} {f : FuncId} {ys xs zs : List AV} {l : List Oper} {hp0 hp1 : List (Nat × ABlk)} {n1 : Nat} {u u1 : DM}
theorem AW.df (hk : AW P y (St.put ⟨σ'.n,σ'.env,σ'.hp,σ'.nx,σ'.gl,σ'.np,(f,ys) :: σ'.df⟩ o.dst (.raw undef)) Q) (hops : splitLast ops.toList = some (l,o):=by (simp only [go_sem,seval]; iterate 2 try (simp (disch:=omega) only [zq]; try simp only [go_sem,seval])); exact rfl) (h : runOps P (ops.toList.map (·.dst)) l σ = (ob,[],σ'):=by (simp only [go_sem,seval]; iterate 2 try (simp (disch:=omega) only [zq]; try simp only [go_sem,seval])); exact rfl)
  (hd : adefer σ' o.op = some (ob',f,ys):=by (simp only [go_sem,seval]; iterate 2 try (simp (disch:=omega) only [zq]; try simp only [go_sem,seval])); exact rfl) (hg : o.guard = none:=by exact rfl) (hdst : dstOk σ'.n o.dst = true:=by (simp only [go_sem,seval]; iterate 2 try (simp (disch:=omega) only [zq]; try simp only [go_sem,seval]))) (hob : ob:=by ((try (simp only [go_sem,seval]; iterate 2 try (simp (disch:=omega) only [zq]; try simp only [go_sem,seval]))); try (first | exact True.intro | omega | (simp only [zb]; omega) | (simp; done) | (simp; omega) | (and_intros <;> first | assumption | omega | (simp; done) | (simp; omega))))) (hob' : ob':=by ((try (simp only [go_sem,seval]; iterate 2 try (simp (disch:=omega) only [zq]; try simp only [go_sem,seval]))); try (first | exact True.intro | omega | (simp only [zb]; omega) | (simp; done) | (simp; omega) | (and_intros <;> first | assumption | omega | (simp; done) | (simp; omega))))) : AW P (.seq (.region id ops false) y) σ Q:=AW.seqDefer hops h hd hg hdst hob hob' hk
theorem finD_pan {x y : AV} (hl : LeaveS P fn (.pan y) ⟨σ.n,σ.env,frzs σ.hp (rids σ.hp 9 x),σ.nx,σ.gl,σ.np,σ.df⟩ R) (h : closeR σ x = some (ob,y):=by (simp only [go_sem,seval]; iterate 2 try (simp (disch:=omega) only [zq]; try simp only [go_sem,seval])); exact rfl) (hob : ob:=by ((try (simp only [go_sem,seval]; iterate 2 try (simp (disch:=omega) only [zq]; try simp only [go_sem,seval]))); try (first | exact True.intro | omega | (simp only [zb]; omega) | (simp; done) | (simp; omega) | (and_intros <;> first | assumption | omega | (simp; done) | (simp; omega))))) : finD P fn R (.panic x) σ:=⟨ob,y,h,hob,hl⟩
theorem LeaveS.c1 {r : List (FuncId × List AV)} (L : List Nat) (hc : FnD P σ.gl f xs hp0 L.length u fun u' h n=>u' = u1 ∧ h = hp1 ∧ n = n1)
  (hK : LeaveS P fn u1 ⟨σ.n,σ.env,appHp (dels σ.hp L) (renHp (bk L σ.nx) hp1),σ.nx + (n1 - L.length),σ.gl,σ.np,r⟩ R) (hdf : σ.df = (f,ys) :: r:=by exact rfl)
  (hz : mapO (fz σ.hp 9) ys = some (ob',zs):=by (simp only [go_sem,seval]; iterate 2 try (simp (disch:=omega) only [zq]; try simp only [go_sem,seval])); exact rfl) (hob' : ob':=by ((try (simp only [go_sem,seval]; iterate 2 try (simp (disch:=omega) only [zq]; try simp only [go_sem,seval]))); try (first | exact True.intro | omega | (simp only [zb]; omega) | (simp; done) | (simp; omega) | (and_intros <;> first | assumption | omega | (simp; done) | (simp; omega))))) (hL : L.all (fun id=>(get σ.hp id).isSome) = true:=by (simp only [go_sem,seval]; iterate 2 try (simp (disch:=omega) only [zq]; try simp only [go_sem,seval]))) (hnd : L.Nodup:=by decide) (hhp : viewHp (Aw.pick L σ.nx) L.length σ.hp hp0:=by (try (simp only [go_sem,seval]; iterate 2 try (simp (disch:=omega) only [zq]; try simp only [go_sem,seval]))) <;> (try (first | rfl | trivial | (and_intros <;> first | rfl | trivial))))
  (hxs : renL (Aw.pick L σ.nx) xs = zs:=by (try (simp only [go_sem,seval]; iterate 2 try (simp (disch:=omega) only [zq]; try simp only [go_sem,seval]))) <;> (try rfl)) (hb : backOk L hp1 n1 = true:=by (simp only [go_sem,seval]; iterate 2 try (simp (disch:=omega) only [zq]; try simp only [go_sem,seval]))) : LeaveS P fn u σ R :=
 LeaveS.cons hdf hz hob' hL hnd hhp hxs hc fun _ _ _ ⟨h1,h2,h3⟩=>by subst h1 h2 h3; exact ⟨hb,hK⟩
theorem LeaveS.rt {rs : Array ResultVar} {q : Prop} (hrs : fn.results = rs) (hq : q) (h : finRet P rs.toList R σ = q:=by (try (simp only [go_sem,seval]; iterate 2 try (simp (disch:=omega) only [zq]; try simp only [go_sem,seval]))); exact rfl) : LeaveS P fn .ret σ R:=LeaveS.ret (by rw [hrs,h]; exact hq)
theorem awGuard.cH {y : AV} (L : List Nat) (hc : FnH P σ.gl f xs hp0 L.length fun r h n=>r = .ret y ∧ h = hp1 ∧ n = n1) (hK : K (St.put (backSt σ L hp1 n1) o.dst (ren (bk L σ.nx) y))) (hg : o.guard = none:=by exact rfl)
  (h : acall σ o.op = some (ob,f,ys):=by (simp only [go_sem,seval]; iterate 2 try (simp (disch:=omega) only [zq]; try simp only [go_sem,seval])); exact rfl) (hz : mapO (fz σ.hp 9) ys = some (ob',zs):=by (simp only [go_sem,seval]; iterate 2 try (simp (disch:=omega) only [zq]; try simp only [go_sem,seval])); exact rfl) (hd : dstOk σ.n o.dst = true:=by (simp only [go_sem,seval]; iterate 2 try (simp (disch:=omega) only [zq]; try simp only [go_sem,seval]))) (hL : L.all (fun id=>(get σ.hp id).isSome) = true:=by (simp only [go_sem,seval]; iterate 2 try (simp (disch:=omega) only [zq]; try simp only [go_sem,seval]))) (hnd : L.Nodup:=by decide)
  (hhp : viewHp (Aw.pick L σ.nx) L.length σ.hp hp0:=by (try (simp only [go_sem,seval]; iterate 2 try (simp (disch:=omega) only [zq]; try simp only [go_sem,seval]))) <;> (try (first | rfl | trivial | (and_intros <;> first | rfl | trivial)))) (hxs : renL (Aw.pick L σ.nx) xs = zs:=by (try (simp only [go_sem,seval]; iterate 2 try (simp (disch:=omega) only [zq]; try simp only [go_sem,seval]))) <;> (try rfl)) (hob : ob:=by ((try (simp only [go_sem,seval]; iterate 2 try (simp (disch:=omega) only [zq]; try simp only [go_sem,seval]))); try (first | exact True.intro | omega | (simp only [zb]; omega) | (simp; done) | (simp; omega) | (and_intros <;> first | assumption | omega | (simp; done) | (simp; omega))))) (hob' : ob':=by ((try (simp only [go_sem,seval]; iterate 2 try (simp (disch:=omega) only [zq]; try simp only [go_sem,seval]))); try (first | exact True.intro | omega | (simp only [zb]; omega) | (simp; done) | (simp; omega) | (and_intros <;> first | assumption | omega | (simp; done) | (simp; omega)))))
  (hb : (backOk L hp1 n1 && noT y) = true:=by (simp only [go_sem,seval]; iterate 2 try (simp (disch:=omega) only [zq]; try simp only [go_sem,seval]))) : awGuard P ds o σ K Kp:=awGuard.callH1 hg h hz hd hL hnd hhp hxs hob hob' hc hb hK
end
end Aw

namespace Aw
open Go

theorem awGuard.effK {P : Program} {ds : List (Option Tmp)} {σ : St} {o : Oper} {K : St → Prop} {Kp : AV → St → Prop} (e : Eff) (hg : o.guard = none) (h1 : pureOp P σ true o.op = none) (h2 : effOp P σ o.op = none) (hd : dstOk σ.n o.dst = true)
  (hE : isEff o.op = true ∨ (e.hp = σ.hp ∧ e.nx = σ.nx)) (hok : ∀ m a,Sim m a σ → EffOk P m a o e) (hK : K (St.put ⟨σ.n,σ.env,e.hp,e.nx,σ.gl,σ.np,σ.df⟩ o.dst e.val)) (hA : isAlloc o.op = false:=by first | rfl | (simp only [*,isAlloc]; done) | exact acall_notA ‹_›) : awGuard P ds o σ K Kp:=by
 unfold awGuard
 rw [hg]
 simp only
 unfold awStep
 rw [h1,h2]
 intro m a N Q hS hN _
 obtain ⟨v,m',hrun,hle,hk,hH,hv⟩:=hok m a hS
 have hS':=hS.put hk hH hd hv
 have hkeep : Keeps o σ (St.put ⟨σ.n,σ.env,e.hp,e.nx,σ.gl,σ.np,σ.df⟩ o.dst e.val):=by
  rcases hE with hE | ⟨hE1,hE2⟩
  ·exact .eff hE hA
  ·rw [hE1,hE2]; exact .put
 unfold Oper.wp
 rcases hrun with hrun | ⟨hrun,rfl⟩
 ·rw [hrun]
  exact hN m' _ _ hle hk hS' hkeep .put hK
 ·rw [hrun]
  exact hN m' _ _ hle hk hS' hkeep .put hK

def rowOf (b : Bool) (sz : Nat) (es : List (List AV)) : ABlk:=if b = true then .full sz es else .row sz es true
theorem rowOf_rep {m : Mem} {ri : RI} {b : Bool} {sz : Nat} {es : List (List AV)} : BlkRep m ri (rowOf b sz es) ↔ (RowRep m ri sz es true ∧ (b = true → ri.isNil = false → es.length = ri.cap)):=by
 cases b
 ·simp only [rowOf,Bool.false_eq_true,if_false,false_imp_iff,and_true]; exact Iff.rfl
 ·simp only [rowOf,if_true,forall_const]; exact Iff.rfl

theorem rset_sound {m : Mem} {hp : List (Nat × ABlk)} {nx : Nat} (hH : SimH m hp nx) {id sz : Nat} {es new : List (List AV)} {b : Bool} (hg : get hp id = some (rowOf b sz es)) {ri : RI} (hρ : m.ρ id = some ri) (hn : ri.isNil = false) {k : Nat}
  (hfit : k + new.length ≤ es.length) (hnew : ∀ e ∈ new,e.length = ri.sz) {vs : List Value} (hl : RepL m 2 new.flatten vs) (hone : ∀ u ∈ vs,isOne u = true) (P : Program) :
  ∃ m' : Mem,(storeCells ⟨ri.b,ri.o + k * ri.sz,none⟩ vs).run P m.w = .ok () m'.w ∧ m.le m' ∧ m.keeps m' ∧ SimH m' (set hp id (rowOf b sz (splice es k new))) nx:=by
 obtain ⟨ri',hρ',hb⟩:=hH.blk id _ hg
 rw [hρ] at hρ'
 injection hρ' with hρ'
 subst hρ'
 rw [rowOf_rep] at hb
 obtain ⟨hb,hbc⟩:=hb
 rcases hb with ⟨h,_⟩ | ⟨_,hP,⟨hsz,hsz'⟩,hcap,⟨c,T,lo,hi,hbk,hfr,hcs⟩,hif⟩
 ·rw [hn] at h; cases h
 rw [if_pos rfl] at hif
 obtain ⟨hY,hF⟩:=hif
 obtain ⟨hall,hX⟩:=RepY.flat.1 hY
 have hLv:=RepX.list hbk hX
 rw [flat_len hall] at hLv
 have hvl : vs.length = new.length * ri.sz:=by rw [hl.length,flat_len hnew]
 have e0 : ri.cap * ri.sz = es.length * ri.sz + (ri.cap - es.length) * ri.sz:=by rw [← Nat.add_mul]; congr 1; omega
 have e1 : es.length * ri.sz = k * ri.sz + (new.length * ri.sz + (es.length - k - new.length) * ri.sz):=by rw [← Nat.add_mul,← Nat.add_mul]; congr 1; omega
 obtain ⟨c',hc1,hc2⟩:=run_storeCells (P:=P) vs (ri.o + k * ri.sz) 0 m.w c hbk (fun i h=>hfr i (Nat.lt_of_lt_of_le h (Nat.le_add_right _ _))) (by omega) hone
 rw [Nat.add_zero] at hc1
 have hcsz : c'.size = c.size:=by
  rw [← Array.length_toList,hc1]
  simp only [splice,List.length_append,List.length_take,List.length_drop,Array.length_toList]
  omega
 have hsame : ∀ j,j < ri.o + k * ri.sz → c'[j]? = c[j]?:=by
  intro j hj
  rw [← Array.getElem?_toList,← Array.getElem?_toList,hc1]
  unfold splice
  by_cases h : j < c.size
  ·rw [List.append_assoc,List.getElem?_append_left (by simp; omega),List.getElem?_take,if_pos hj]
  ·have h' : c.toList.length ≤ j:=by simpa using h
   omega
 have hU : Upd m { m with w:=wset m.w ri.b (.cells c' T (lo,hi)) } ri.b:=by
  refine Upd.set hH hP (fun o h=>?_)
  have hlt : o < ri.o:=by
   rcases Nat.lt_or_ge o ri.o with h' | h'
   ·exact h'
   ·exact (hF o h' h).elim
  simp only [World.cell?,wset_get hbk,hbk,Option.isSome_none,Bool.false_eq_true,if_false]
  exact hsame o (by omega)
 have hlen : (splice es k new).length = es.length:=by
  simp only [splice,List.length_append,List.length_take,List.length_drop]
  omega
 have hall' : ∀ e ∈ splice es k new,e.length = ri.sz:=by
  intro e he
  simp only [splice,List.mem_append] at he
  rcases he with (he | he) | he
  ·exact hall e (List.mem_of_mem_take he)
  ·exact hnew e he
  ·exact hall e (List.mem_of_mem_drop he)
 have hflat : (splice es k new).flatten = splice es.flatten (k * ri.sz) new.flatten:=by
  have t1 : ∀ (l : List (List AV)) (k : Nat),(∀ e ∈ l,e.length = ri.sz) → (l.take k).flatten = l.flatten.take (k * ri.sz) ∧ (l.drop k).flatten = l.flatten.drop (k * ri.sz):=by
   intro l
   induction l with
   | nil=>intro k _; simp
   | cons x l ih =>
    intro k hx
    cases k with
    | zero=>simp
    | succ k =>
     obtain ⟨i1,i2⟩:=ih k (fun e he=>hx e (List.mem_cons_of_mem _ he))
     have hxl:=hx x (List.mem_cons_self)
     have e : (k + 1) * ri.sz = x.length + k * ri.sz:=by rw [hxl,Nat.succ_mul,Nat.add_comm]
     rw [List.take_succ_cons,List.drop_succ_cons,List.flatten_cons,List.flatten_cons,i1,i2,e,List.take_length_add_append,List.drop_length_add_append]
     exact ⟨rfl,rfl⟩
  unfold splice
  rw [List.flatten_append,List.flatten_append,(t1 es k hall).1,(t1 es _ hall).2,flat_len hnew,Nat.add_mul]
 refine ⟨{ m with w:=wset m.w ri.b (.cells c' T (lo,hi)) },hc2,hU.le hH,hU.keeps hH,?_⟩
 refine hH.upd hU (k:=id) (ri:=ri) (blk:=rowOf b sz (splice es k new)) hρ ?_ (fun _=>rfl) (by rw [get_set,if_pos rfl]) ?_ hH.fresh
 ·rw [rowOf_rep]
  refine ⟨.inr ⟨hn,hP,⟨hsz,hsz'⟩,by rw [hlen]; exact hcap,⟨c',T,lo,hi,wset_get hbk,by rw [hcsz]; exact hfr,by rw [hcsz]; exact hcs⟩,?_⟩,fun hb _=>by rw [hlen]; exact hbc hb hn⟩
  rw [if_pos rfl]
  refine ⟨RepY.flat.2 ⟨hall',RepX.of_list (c:=c') (wset_get hbk) ?_⟩,hF⟩
  rw [flat_len hall',hlen,hc1,hflat]
  have:=splice_window (l:=c.toList) (new:=vs) (o:=ri.o) (k:=k * ri.sz) (L:=es.length * ri.sz) (by simp only [Array.length_toList]; omega) (by omega) (by simp only [Array.length_toList]; omega)
  rw [this]
  exact (RepL.mono (hU.keeps hH) 2 _ _ hLv).splice (RepL.mono (hU.keeps hH) 2 _ _ hl) _
 ·intro j hj z hz
  rw [get_set,if_neg (Ne.symm hj)] at hz
  exact ⟨hz,hH.sole hg hρ hn j hj z hz⟩

def fsrc (hp : List (Nat × ABlk)) (sz : Nat) (x : AV) : Option (Prop × List (List AV)) :=
 match x with
 | .row id off len=>match get hp id with
  | some (.full sz' es)=>if sz' = sz then some (off + len ≤ es.length ∧ ∀ e ∈ (es.drop off).take len,okRow sz e = true,(es.drop off).take len) else none
  | _=>asrc hp sz x
 | _=>asrc hp sz x
/-! ### from a row to a row with its spare places, and back -/
theorem AW.toFull {P : Program} {c : Code} {σ : St} {Q : AX → St → Prop} (id : Nat) {sz : Nat} {es : List (List AV)} (hg : get σ.hp id = some (.row sz es true))
  (h : ∀ k,AW P c ⟨σ.n,σ.env,set σ.hp id (.full sz (es ++ List.replicate k (List.replicate sz .top))),σ.nx,σ.gl,σ.np,σ.df⟩ Q) : AW P c σ Q:=by
 intro m a hS
 obtain ⟨ri,hρ,hb⟩:=hS.h.blk id _ hg
 have key : ∃ k,SimH m (set σ.hp id (.full sz (es ++ List.replicate k (List.replicate sz .top)))) σ.nx:=by
  refine ⟨if ri.isNil = true then 0 else ri.cap - es.length,?_,?_,hS.h.fresh,hS.h.Fold,hS.h.Pold⟩
  ·intro i x hx
   rw [get_set] at hx
   split at hx
   ·rename_i e
    injection hx with hx
    subst e hx
    refine ⟨ri,hρ,?_⟩
    rcases hb with ⟨h1,h2⟩ | ⟨h1,h2,⟨h3,h3'⟩,h4,⟨c,T,lo,hi,g1,g2,g3⟩,h8⟩
    ·rw [if_pos h1,List.replicate_zero,List.append_nil]
     exact ⟨.inl ⟨h1,h2⟩,fun h=>by rw [h1] at h; cases h⟩
    ·rw [if_neg (by simp [h1])]
     have hlen : (es ++ List.replicate (ri.cap - es.length) (List.replicate sz AV.top)).length = ri.cap:=by simp; omega
     refine ⟨.inr ⟨h1,h2,⟨h3,h3'⟩,Nat.le_of_eq hlen,⟨c,T,lo,hi,g1,g2,g3⟩,?_⟩,fun _=>hlen⟩
     rw [if_pos rfl] at h8 ⊢
     obtain ⟨hY,hF⟩:=h8
     refine ⟨?_,hF⟩
     obtain ⟨hall,hX⟩:=RepY.flat.1 hY
     refine RepY.flat.2 ⟨?_,?_⟩
     ·intro e he
      rcases List.mem_append.1 he with he | he
      ·exact hall e he
      ·rw [(List.mem_replicate.1 he).2,List.length_replicate,h3']
     ·rw [List.flatten_append,RepX.flat_append]
      refine ⟨hX,?_⟩
      rw [flat_len hall]
      have htop : ∀ (n o : Nat),o + n ≤ c.size → RepX m 2 (List.replicate n AV.top) ri.b o:=by
       intro n
       induction n with
       | zero=>intro o _; simp only [List.replicate_zero,RepX]
       | succ n ih =>
        intro o ho
        simp only [List.replicate_succ,RepX]
        refine ⟨⟨c[o]'(by omega),?_,by simp only [Rep]⟩,ih (o + 1) (by omega)⟩
        simp only [World.cell?,g1,Option.isSome_none,Bool.false_eq_true,if_false]
        rw [Array.getElem?_eq_getElem (by omega)]
      have hfl : (List.replicate (ri.cap - es.length) (List.replicate sz AV.top)).flatten = List.replicate ((ri.cap - es.length) * sz) AV.top:=by
       simp
      rw [hfl]
      refine htop _ _ ?_
      have : ri.cap * ri.sz = es.length * ri.sz + (ri.cap - es.length) * ri.sz:=by rw [← Nat.add_mul]; congr 1; omega
      rw [h3'] at this g3 ⊢
      omega
   ·exact hS.h.blk i x hx
  ·intro i i' x x' r r' hx hx' hr hr' hne hn hn'
   have hk : ∀ j y,get (set σ.hp id (.full sz (es ++ List.replicate (if ri.isNil = true then 0 else ri.cap - es.length) (List.replicate sz .top)))) j = some y → ∃ z,get σ.hp j = some z:=by
    intro j y hy
    rw [get_set] at hy
    split at hy
    ·rename_i e; subst e; exact ⟨_,hg⟩
    ·exact ⟨y,hy⟩
   obtain ⟨z,hz⟩:=hk i x hx
   obtain ⟨z',hz'⟩:=hk i' x' hx'
   exact hS.h.apart i i' z z' r r' hz hz' hr hr' hne hn hn'
 obtain ⟨k,hk⟩:=key
 exact h k m a ⟨hk,hS.n,hS.defers,hS.env,hS.gl,hS.np⟩

theorem St.le.unFull {σ : St} (id k : Nat) {sz : Nat} {es : List (List AV)} (hg : get σ.hp id = some (.full sz es)) : St.le ⟨σ.n,σ.env,set σ.hp id (.row sz (es.take k) true),σ.nx,σ.gl,σ.np,σ.df⟩ σ:=by
 intro m a hS
 refine ⟨m,rfl,.refl m,⟨⟨?_,?_,hS.h.fresh,hS.h.Fold,hS.h.Pold⟩,hS.n,hS.defers,hS.env,hS.gl,hS.np⟩⟩
 ·intro i x hx
  rw [get_set] at hx
  split at hx
  ·rename_i e
   injection hx with hx
   subst e hx
   obtain ⟨ri,hρ,hb,_⟩:=hS.h.blk _ _ hg
   refine ⟨ri,hρ,?_⟩
   rcases hb with ⟨h1,h2⟩ | ⟨h1,h2,h3,h4,h5,h8⟩
   ·exact .inl ⟨h1,by rw [h2,List.take_nil]⟩
   ·refine .inr ⟨h1,h2,h3,Nat.le_trans (by simp; omega) h4,h5,?_⟩
    rw [if_pos rfl] at h8 ⊢
    exact ⟨h8.1.take k,h8.2⟩
  ·exact hS.h.blk i x hx
 ·intro i i' x x' r r' hx hx' hr hr' hne hn hn'
  have hk : ∀ j y,get (set σ.hp id (.row sz (es.take k) true)) j = some y → ∃ z,get σ.hp j = some z:=by
   intro j y hy
   rw [get_set] at hy
   split at hy
   ·rename_i e; subst e; exact ⟨_,hg⟩
   ·exact ⟨y,hy⟩
  obtain ⟨z,hz⟩:=hk i x hx
  obtain ⟨z',hz'⟩:=hk i' x' hx'
  exact hS.h.apart i i' z z' r r' hz hz' hr hr' hne hn hn'
end Aw

namespace Aw
open Go
section
variable {P : Program} {ds : List (Option Tmp)} {σ : St} {o : Oper} {K : St → Prop} {Kp : AV → St → Prop} {ob ob' : Prop}

end
end Aw

namespace Aw
open Go
section
variable {P : Program} {ds : List (Option Tmp)} {σ : St} {o : Oper} {K : St → Prop} {Kp : AV → St → Prop} {ob ob' ob'' : Prop}

end
end Aw

namespace Aw
open Go
section
variable {P : Program} {ds : List (Option Tmp)} {σ : St} {o : Oper} {K : St → Prop} {Kp : AV → St → Prop} {ob ob' ob'' : Prop}

theorem fclr_sound {x : Operand} {t e : TypeId} {i ei : TI} {id off len sz : Nat} {es : List (List AV)} {z : List AV} {c : Call} (ho : o.op = .call c) (hc : c.callee = .builtin .clear) (ha : c.args = #[x]) (ht : c.argTypes = #[t]) (hi : tinfo P t = some i) (hk : i.k = .slice e)
  (hei : tinfo P e = some ei) (hsz : sz = ei.sz) (hz : ei.zero = some z) (hzl : z.length = ei.sz) (hzo : z.all okCell = true) (hx : evE σ x = some (ob,.row id off len)) (hob : ob) (hp : get σ.hp id = some (.full sz es)) (hfit : off + len ≤ es.length) {m : Mem} {a : Act} (hS : Sim m a σ) :
  EffOk P m a o ⟨True,.tup [],set σ.hp id (.full sz (splice es off (rep len z))),σ.nx⟩:=by
 have hv:=evE_sound hS hx hob
 simp only [Rep] at hv
 obtain ⟨_,ri,hρ,hrow⟩:=hv
 obtain ⟨ri',hρ',hb⟩:=hS.h.blk id _ hp
 rw [hρ] at hρ'
 injection hρ' with hρ'
 subst hρ'
 obtain ⟨callee,args,argTypes⟩:=c
 simp only at hc ha ht
 subst hc ha ht
 obtain ⟨ti',hti',hts,htb,hzz⟩:=run_typeInfo_ti (w:=m.w) hei
 rw [hz] at hzz
 obtain ⟨zv,hzv,hzc⟩ : ∃ zv,ti'.zero = some zv ∧ z = zv.cells.toList.map constAV:=by
  cases h : ti'.zero with
  | none=>rw [h] at hzz; cases hzz
  | some zv=>rw [h] at hzz; exact ⟨zv,rfl,by simpa using hzz⟩
 have hzr : (zeroValue e).run P m.w = .ok zv m.w:=by unfold zeroValue; rw [run_bind hti']; simp only [hzv] <;> rfl
 have hcell : (Builtin.zeroCells zv.cells len).toList = (rep len zv.cells.toList).flatten:=by
  simp only [Builtin.zeroCells]
  rw [← map_range_mod,Array.toList_map,Array.toList_range]
 have hL : ∀ m : Mem,RepL m 2 (rep len z).flatten (rep len zv.cells.toList).flatten:=fun m=>(by rw [hzc]; exact (RepL.const _).rep _)
 have hall : ∀ e ∈ rep len z,e.length = ei.sz:=fun e he=>by simp only [rep,List.mem_replicate] at he; rw [he.2,hzl]
 have hone : ∀ u ∈ (rep len zv.cells.toList).flatten,isOne u = true:=by
  refine (hL m).isOne fun x hx=>?_
  obtain ⟨l,hl,hxl⟩:=List.mem_flatten.1 hx
  simp only [rep,List.mem_replicate] at hl
  rw [hl.2] at hxl
  exact List.all_eq_true.1 hzo x hxl
 have hrl : (rep len z).length = len:=by simp [rep]
 have hexec : ∀ (sv : Value) (w' : World),a.eval x = sv → (Builtin.clear_ #[t] o.type #[sv]).run P m.w = .ok (.tuple #[]) w' → (execOp a.eval o).run P m.w = .ok (.value (.tuple #[])) w':=by
  rintro _ w' rfl h
  simp only [execOp,ho]
  show (do pure (Next.value (← Builtin.clear_ #[t] o.type ((#[x] : Array Operand).map a.eval))) : Sem Next).run P m.w = _
  have e3 : (#[x] : Array Operand).map a.eval = #[a.eval x]:=by simp
  rw [e3]
  exact run_value h
 have e1 : (#[t] : Array TypeId)[0]? = some t:=rfl
 have htup : ∀ m' : Mem,Rep m' 0 (.tup []) (.tuple #[]):=fun m'=>by simp only [Rep]; exact ⟨#[],rfl,by simp [RepL]⟩
 have hnil : len = 0 → SimH m (set σ.hp id (.full sz (splice es off (rep len z)))) σ.nx:=by
  intro h0
  subst h0
  have : splice es off (rep 0 z) = es:=by simp [splice,rep]
  rw [this]
  refine SimH.congr ?_ hS.h
  intro j
  rw [get_set]
  split
  ·rename_i e; subst e; exact hp.symm
  ·rfl
 rcases hrow with ⟨hn,rfl,rfl,hv⟩ | ⟨hn,hcap,hlt,hv⟩ | ⟨hn,rfl,rfl,A',hv⟩
 ·refine ⟨_,m,.inl (hexec _ _ hv ?_),.refl m,.refl m,hnil rfl,htup m⟩
  have e2 : (#[Value.slice none 0 0] : Array Value)[0]? = some (.slice none 0 0):=rfl
  simp only [Builtin.clear_,e1,e2,Sem.run_bind,run_slice_ti hi hk,Result.andThen_ok,Sem.run_pure]
 ·by_cases h0 : len = 0
  ·refine ⟨_,m,.inl (hexec _ _ hv ?_),.refl m,.refl m,hnil h0,htup m⟩
   subst h0
   have e2 : (#[Value.slice (some ⟨ri.b,ri.o + off * ri.sz,none⟩) 0 (ri.cap - off)] : Array Value)[0]? = some (.slice (some ⟨ri.b,ri.o + off * ri.sz,none⟩) 0 (ri.cap - off)):=rfl
   simp only [Builtin.clear_,e1,e2,Sem.run_bind,run_slice_ti hi hk,Result.andThen_ok,Sem.run_pure]
  ·have hri : ri.sz = sz:=by
    rcases hb.1 with h | h
    ·rw [hn] at h; cases h.1
    ·exact h.2.2.1.2
   obtain ⟨m',k1,k2,k3,k4⟩:=rset_sound (b:=true) hS.h hp hρ hn (k:=off) (new:=rep len z) (by rw [hrl]; exact hfit) (by rw [hri,hsz]; exact hall) (hL m) hone P
   refine ⟨_,m',.inl (hexec _ _ hv ?_),k2,k3,k4,htup m'⟩
   obtain ⟨len',rfl⟩ : ∃ l,len = l + 1:=⟨len - 1,by omega⟩
   have e2 : (#[Value.slice (some ⟨ri.b,ri.o + off * ri.sz,none⟩) (len' + 1) (ri.cap - off)] : Array Value)[0]? = some (.slice (some ⟨ri.b,ri.o + off * ri.sz,none⟩) (len' + 1) (ri.cap - off)):=rfl
   simp only [Builtin.clear_,e1,e2,Sem.run_bind,run_slice_ti hi hk,Result.andThen_ok,Sem.run_pure,hzr,hcell,k1]
 ·refine ⟨_,m,.inl (hexec _ _ hv ?_),.refl m,.refl m,hnil rfl,htup m⟩
  have e2 : (#[Value.slice (some A') 0 0] : Array Value)[0]? = some (.slice (some A') 0 0):=rfl
  simp only [Builtin.clear_,e1,e2,Sem.run_bind,run_slice_ti hi hk,Result.andThen_ok,Sem.run_pure]
theorem awGuard.fcl {x : Operand} {t e : TypeId} {i ei : TI} {id off len sz : Nat} {es : List (List AV)} {z : List AV} {c : Call} (hg : o.guard = none) (ho : o.op = .call c) (hc : c.callee = .builtin .clear) (ha : c.args = #[x]) (ht : c.argTypes = #[t]) (hi : tinfo P t = some i) (hk : i.k = .slice e)
  (hei : tinfo P e = some ei) (hsz : sz = ei.sz) (hz : ei.zero = some z) (hzl : z.length = ei.sz) (hzo : z.all okCell = true) (hx : evE σ x = some (ob,.row id off len)) (hob : ob) (hp : get σ.hp id = some (.full sz es)) (hfit : off + len ≤ es.length) (hd : dstOk σ.n o.dst = true)
  (hK : K (St.put ⟨σ.n,σ.env,set σ.hp id (.full sz (splice es off (rep len z))),σ.nx,σ.gl,σ.np,σ.df⟩ o.dst (.tup []))) : awGuard P ds o σ K Kp :=
 awGuard.effK ⟨True,.tup [],set σ.hp id (.full sz (splice es off (rep len z))),σ.nx⟩ hg (by rw [ho]; simp only [pureOp,hc]) (by rw [ho]; simp only [effOp,hc]) hd (.inl (by rw [ho]; simp only [isEff,hc]))
  (fun m a hS=>fclr_sound ho hc ha ht hi hk hei hsz hz hzl hzo hx hob hp hfit hS) hK

/-! ### an append of so many zeros, beyond the room -/
end
end Aw

namespace Aw
open Go
section
variable {P : Program} {ds : List (Option Tmp)} {σ : St} {o : Oper} {K : St → Prop} {Kp : AV → St → Prop} {ob ob' ob'' : Prop}
end

end Aw
