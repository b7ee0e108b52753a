/- A part of the proof: no condition of its own. -/
import Derived.Test.YtlamdhcfojligaaGreatCore46
import Derived.ProofKit
import Derived.Below
import Derived.ChangeSame
import Derived.HandedShaped
import Derived.OpenShut
import Derived.Lib.Bytealg
import Derived.IntWalk
import Derived.Test.YtlamdhcfojligaaGreatProg
namespace Aw
open Go Go.RowKit Go.WideShapes Go.ChangeShapes
theorem FnP.below {P : Program} {gl : List (Nat × AV)} {f : FuncId} {xs : List AV} (h : FnP P gl f xs fun r=>r = .ret (.bool true)) {m : Mem} {vs : List Value} {W : World} (hw : m.w = W)
  (hm : Start m gl) (hP : m.Pr = fun b=>b < W.heap.size) (hv : RepL m 1 xs vs) : Calls P f vs.toArray W fun e W'=>e = .returned (.bool true) ∧ Below W.heap.size W W':=by
 subst hw
 refine (h.calls m vs hm hv).mono ?_
 rintro e w' ⟨m',r,rfl,hle,_,hend,rfl⟩
 obtain ⟨v,rfl,hv⟩:=hend
 simp only [Rep] at hv
 subst hv
 exact ⟨rfl,hle.os,hle.tape,hle.output,hle.size,fun b hb=>hle.block b (by rw [hP]; exact hb)⟩

section
variable {H : Type} {enc : TypeId × Value → H} {P : Program}
theorem trodAll_stays (hl : laidOutB P = true) {W W' : World} {sp' : Nat → Bool} : ∀ {ts : List TypeId} {vs : List Value} {ds : List (DataW H)} {ps : List MemPlace},
  ts.all (fun t=>P.readableRec t && decide (t < P.types.size)) = true → DataW.TrodAll enc P W 0 (fun _=>true) true ts vs ds ps → (∀ p ∈ ps,W.sameAt W' p) → (∀ p ∈ ps,sp' p.block = true) →
  DataW.TrodAll enc P W' 0 sp' true ts vs ds ps
 | [],vs,ds,ps,_,h,_,_=>by
  obtain ⟨rfl,rfl,rfl⟩:=trodAll_nil h
  exact trodAll_mk0
 | t :: ts,vs,ds,ps,hr,h,h1,h2=>by
  obtain ⟨v,vs,d,ds,p,q,rfl,rfl,rfl,hv,hr'⟩:=trodAll_cons h
  simp only [List.all_cons,Bool.and_eq_true,decide_eq_true_eq] at hr
  exact trodAll_cons_mk (WideElems.Trod_stays hl hr.1.1 hr.1.2 hv (fun x hx=>h1 x (by simp [hx])) (fun x hx=>h2 x (by simp [hx])))
   (trodAll_stays hl (by simpa using hr.2) hr' (fun x hx=>h1 x (by simp [hx])) (fun x hx=>h2 x (by simp [hx])))

theorem law_post {f : Func} {s : ChangeSpec} {fresh handsOn again : Bool} {W W' : World} {args : Array Value} {ds gs : List (DataW H)} {before : List MemPlace} {tb : TypeId} (hl : laidOutB P = true)
  (hrt : f.resultTypes = #[tb]) (htb : P.underlying tb = some .bool) (hps : f.params.toList.all (fun t=>P.readableRec t && decide (t < P.types.size)) = true) (hvar : s.vars = [])
  (hs : s.fn H (ds ++ gs) = { results:=[.lit (.bool true)],args:=ds }) (hW : DataW.Whole enc P f.params.toList s.vars false W args.toList ds gs before) (hb : Below W.heap.size W W') :
  s.post enc P f false fresh handsOn again W args (.bool true) W':=by
 have hlt : ∀ p ∈ before,p.block < W.heap.size:=fun p hp=>hW.lt p hp
 have hold : ∀ p ∈ before,(fun b=>decide (b < W.heap.size)) p.block = true:=fun p hp=>by simpa using hlt p hp
 have hres : ∀ (b : Nat) (sp : Nat → Bool) (hd : Bool),DataW.TrodAll enc P W' b sp hd f.resultTypes.toList ((Value.bool true).resultList f.resultTypes.size) (s.fn H (ds ++ gs)).results []:=by
  intro b sp hd
  rw [hrt,hs]
  exact trodAll_mk1 ⟨1,by simp [DataW.trod,Value.cells,htb]⟩
 obtain ⟨p,q,hA,hV,e,hz,hn⟩:=hW
 rw [hvar] at hV
 obtain ⟨rfl,rfl⟩:=trodVars_none hV
 rw [List.append_nil] at e
 subst e
 have hargs : ∀ sp : Nat → Bool,(∀ x ∈ before,sp x.block = true) → DataW.TrodAll enc P W' 0 sp true f.params.toList args.toList (s.fn H (ds ++ [])).args before:=by
  intro sp hsp
  rw [hs]
  exact trodAll_stays hl hps hA (fun x hx=>hb.same (hlt x hx)) hsp
 have hvars : ∀ sp : Nat → Bool,DataW.TrodVars enc P W' sp s.vars (s.fn H (ds ++ [])).vars []:=by
  intro sp
  rw [hs,hvar]
  rfl
 have hW0 : DataW.Whole enc P f.params.toList s.vars false W args.toList ds [] before:=⟨before,[],hA,by rw [hvar]; rfl,by simp,hz,hn⟩
 refine ⟨ds,[],before,[],before,[],hW0,hres _ _ _,hargs _ hold,hvars _,World.keptBut_mono (fun p hp=>⟨hp,Or.inr (Or.inl hp)⟩) (hb.frame (· ∈ before)),fun _=>?_⟩
 refine ⟨?_,_,_,([] ++ before) ++ [],⟨[] ++ before,[],trodAll_append (hargs _ (fun _ _=>rfl)) (hres _ _ _),hvars _,rfl,?_,?_⟩,?_⟩
 ·exact ok_one hrt rfl (okWide_bool_mk htb _)
 ·intro b off hp
  have hin : MemPlace.cell b off ∈ before:=by simpa using hp
  rw [hb.frozen (hlt _ hin)]
  exact hz b off hin
 ·intro ha
  cases ha
 ·intro p hp _
  simpa using hp
end
theorem rep_str {m : Mem} {k : Nat} (s : ByteArray) : Rep m k (.str s.data.toList) (.string s):=by simp only [Rep]
theorem rep_int {m : Mem} {k : Nat} {ki : IntKind} (n : Int) : Rep m k (.int ki n) (.int ki n):=by simp only [Rep]
theorem rep_bool {m : Mem} {k : Nat} (b : Bool) : Rep m k (.bool b) (.bool b):=by simp only [Rep]
theorem repl_nil {m : Mem} {k : Nat} : RepL m k [] []:=by simp only [RepL]
theorem repl_cons {m : Mem} {k : Nat} {x : AV} {v : Value} {xs : List AV} {vs : List Value} (h : Rep m k x v) (hs : RepL m k xs vs) : RepL m k (x :: xs) (v :: vs):=by
 simp only [RepL]
 exact ⟨v,vs,rfl,h,hs⟩
theorem wf_i64 {n : Int} (h : (Lit.int .i64 n).wf = true) : -9223372036854775808 ≤ n ∧ n ≤ 9223372036854775807:=by
 simpa [Lit.wf,IntKind.min,IntKind.max,IntKind.bits,IntKind.signed] using h
end Aw

namespace Aw
open Go Go.RowKit Go.WideShapes Go.ChangeShapes
mutual
def dbulk {H : Type} : DataW H → Nat
 | .lit (.string bytes)=>bytes.length + 1
 | .lit _=>1
 | .nil=>1
 | .ptr d=>dbulk d + 1
 | .slice elems spare=>dbulks elems + dbulks spare + 1
 | .agg parts=>dbulks parts + 1
 | .iface _ d=>dbulk d + 1
 | .map _=>1
 | .held _=>1
def dbulks {H : Type} : List (DataW H) → Nat
 | []=>0
 | d :: r=>dbulk d + dbulks r
end
def gmA (W : World) : Mem:={ w:=W,F:=fun b _=>b < W.heap.size,Pr:=fun b=>b < W.heap.size,ρ:=fun _=>none,np:=0 }
theorem gstartA0 (W : World) : Aw.Start (gmA W) []:=⟨fun _ _ h=>h,fun _ hb=>hb,fun g x hg=>by simp [Aw.get] at hg,rfl,fun _=>rfl⟩
theorem cell_lt {W : World} {a : Addr} {v : Value} (h : W.cell? a = some v) : a.block < W.heap.size:=by
 rcases Nat.lt_or_ge a.block W.heap.size with hlt | hge
 ·exact hlt
 ·have : W.heap[a.block]? = none:=by rw [Array.getElem?_eq_none]; exact hge
  simp [World.cell?,this] at h
theorem cell_spot {W : World} {a : Addr} {v : Value} (h : W.cell? a = some v) : a = ⟨a.block,a.off,none⟩:=by
 obtain ⟨b,o,s⟩:=a
 cases s with
 | none=>rfl
 | some s =>
  simp only [World.cell?,Option.isSome_some,if_true] at h
  split at h <;> cases h
theorem addr_add_ok {W : World} {a : Addr} {n : Nat} {v : Value} (h : W.cell? (a.add n) = some v) : a.add n = ⟨a.block,a.off + n,none⟩:=by
 unfold Addr.add at *
 split
 ·rename_i e
  subst e
  rw [if_pos rfl] at h
  exact cell_spot h
 ·rfl
theorem RepC.of_cells {W : World} {b : Nat} : ∀ {xs : List AV} {l : List Value} {o : Nat},RepL (gmA W) 2 xs l → (∀ j,j < l.length → W.cell? ⟨b,o + j,none⟩ = l[j]?) → RepC (gmA W) xs b o
 | [],_,_,_,_=>by simp only [RepC]
 | x :: xs,l,o,h,hc=>by
  simp only [RepL] at h
  obtain ⟨v,rest,rfl,hv,hr⟩:=h
  have h0:=hc 0 (by simp)
  simp only [Nat.add_zero,List.getElem?_cons_zero] at h0
  simp only [RepC]
  refine ⟨cell_lt h0,⟨v,h0,hv⟩,RepC.of_cells hr fun j hj=>?_⟩
  have:=hc (j + 1) (by simpa using hj)
  rw [show o + 1 + j = o + (j + 1) from by omega,this]
  rfl
section
variable {H : Type} (enc : TypeId × Value → H) (P : Program) (W : World)
def Opn {α : Type} (N : Nat) (t : TypeId) (cells : α → List AV) (size : α → Nat) (wf : α → Prop) : Prop :=
 ∀ (fuel : Nat) (cs : List Value) (x : DataW H × List MemPlace),fuel ≤ N → DataW.trod enc P W 0 (fun _=>true) true fuel t cs = some x → ∃ a : α,RepL (gmA W) 2 (cells a) cs ∧ size a ≤ dbulk x.1 ∧ wf a
def OpnF {α : Type} (N : Nat) (fs : List (Nat × TypeId)) (o e : Nat) (cells : α → List AV) (size : α → Nat) (wf : α → Prop) : Prop :=
 ∀ (fuel : Nat) (cs : List Value) (xs : List (DataW H × List MemPlace)),fuel ≤ N → xs.length = fs.length → cs.length = e →
  (∀ (i : Nat) (f : Nat × TypeId),fs[i]? = some f → DataW.trod enc P W 0 (fun _=>true) true fuel f.2 ((cs.drop f.1).take (P.cellsOf f.2)) = xs[i]?) → ∃ a : α,RepL (gmA W) 2 (cells a) (cs.drop o) ∧ size a ≤ dbulks (xs.map (·.1)) ∧ wf a
end
section
variable {H : Type} {enc : TypeId × Value → H} {P : Program} {W : World} {N : Nat} {t e : TypeId}
theorem Opn.mono {α : Type} {cells : α → List AV} {size : α → Nat} {wf : α → Prop} {N' : Nat} (h : Opn enc P W N t cells size wf) (hN : N' ≤ N) : Opn enc P W N' t cells size wf :=
 fun fuel cs x hf hx=>h fuel cs x (by omega) hx
theorem Opn.as {α β : Type} {cells : α → List AV} {size : α → Nat} {wf : α → Prop} (f : α → β) {cells' : β → List AV} {size' : β → Nat} {wf' : β → Prop} (h : Opn enc P W N t cells size wf)
  (hc : ∀ a,cells' (f a) = cells a) (hs : ∀ a,size' (f a) ≤ size a) (hw : ∀ a,wf a → wf' (f a)) : Opn enc P W N t cells' size' wf':=by
 intro fuel cs x hf hx
 obtain ⟨a,h1,h2,h3⟩:=h fuel cs x hf hx
 exact ⟨f a,by rw [hc]; exact h1,Nat.le_trans (hs a) h2,hw a h3⟩
theorem Opn.int {k : IntKind} (ht : P.underlying t = some (.int k)) : Opn enc P W N t (fun n : Int=>[.int k n]) (fun _=>1) (fun n=>(Lit.int k n).wf = true):=by
 intro fuel cs x _ hx
 obtain ⟨n,rfl,rfl,hw⟩:=DataW.trod_int ht hx
 exact ⟨n,repl_cons (rep_int n) repl_nil,by simp [dbulk],hw⟩
theorem Opn.bool (ht : P.underlying t = some .bool) : Opn enc P W N t (fun b : Bool=>[.bool b]) (fun _=>1) (fun _=>True):=by
 intro fuel cs x _ hx
 obtain ⟨n,rfl,rfl⟩:=DataW.trod_bool ht hx
 exact ⟨n,repl_cons (rep_bool n) repl_nil,by simp [dbulk],trivial⟩
theorem Opn.str (ht : P.underlying t = some .string) : Opn enc P W N t (fun s : List UInt8=>[.str s]) (fun s=>s.length + 1) (fun _=>True):=by
 intro fuel cs x _ hx
 obtain ⟨s,rfl,rfl,_⟩:=DataW.trod_string ht hx
 exact ⟨s.data.toList,repl_cons (rep_str s) repl_nil,by simp [dbulk],trivial⟩
theorem cells_of {a : Addr} {n : Nat} {l : List Value} (h : W.cells? 0 a n = some l) : l.length = n ∧ ∀ j,j < n → W.cell? (a.add j) = l[j]?:=by
 simp only [World.cells?,Nat.zero_le,if_true] at h
 exact ⟨by simpa using mapM_some_length h,fun j hj=>mapM_some_get h j j (by simp [hj])⟩
theorem Opn.slice {α : Type} {cells : α → List AV} {size : α → Nat} {wf : α → Prop} (ht : P.underlying t = some (.slice e)) (hc : 0 < P.cellsOf e) (he : Opn enc P W N e cells size wf) :
  Opn enc P W (N + 1) t (fun l : List α=>[.sl (l.map cells)]) (fun l=>(l.map size).sum + 1) (fun l=>∀ a ∈ l,wf a):=by
 intro fuel cs x hf hx
 rcases DataW.trod_slice ht hx with ⟨rfl,rfl⟩ | ⟨a,len,cap,elems,rest,n,rfl,rfl,rfl,_,hle,_,hlen,hel,_,_⟩
 ·exact ⟨[],repl_cons (by simp only [Rep,List.map_nil]; exact .inl ⟨trivial,_,_,rfl⟩) repl_nil,by simp [dbulk],by simp⟩
 ·have key : ∀ (es : List (DataW H × List MemPlace)) (o : Nat),(∀ i,i < es.length → (W.cells? 0 (a.add ((o + i) * P.cellsOf e)) (P.cellsOf e)).bind (DataW.trod enc P W 0 (fun _=>true) true n e) = es[i]?) →
    ∃ l : List α,l.length = es.length ∧ RepE (gmA W) (l.map cells) a.block (a.off + o * P.cellsOf e) (P.cellsOf e) ∧ (l.map size).sum ≤ dbulks (es.map (·.1)) ∧ ∀ b ∈ l,wf b:=by
   intro es
   induction es with
   | nil=>intro o _; exact ⟨[],rfl,by simp only [List.map_nil,RepE],by simp,by simp⟩
   | cons y es ih =>
    intro o hy
    obtain ⟨l,hl,hr,hs,hw⟩:=ih (o + 1) (fun i hi=>by
     have:=hy (i + 1) (by simpa using hi)
     rw [show o + 1 + i = o + (i + 1) from by omega,this]; rfl)
    have h0:=hy 0 (by simp)
    simp only [Nat.add_zero,List.getElem?_cons_zero,Option.bind_eq_some_iff] at h0
    obtain ⟨vs,hv,hy0⟩:=h0
    obtain ⟨b,hb1,hb2,hb3⟩:=he n vs y (by omega) hy0
    obtain ⟨hvl,hvc⟩:=cells_of hv
    have hbl:=RepL.length hb1
    refine ⟨b :: l,by simp [hl],?_,?_,?_⟩
    ·simp only [List.map_cons,RepE]
     have h1 : ∀ j,j < P.cellsOf e → W.cell? ⟨a.block,a.off + o * P.cellsOf e + j,none⟩ = vs[j]?:=by
      intro j hj
      have h2:=hvc j hj
      rw [← h2]
      have hj' : j < vs.length:=by omega
      rw [List.getElem?_eq_getElem hj'] at h2
      have h3 : W.cell? (a.add (o * P.cellsOf e)) = vs[0]?:=by
       have:=hvc 0 hc
       simpa [Addr.add] using this
      rw [List.getElem?_eq_getElem (by omega)] at h3
      have h4:=addr_add_ok h3
      have h5:=addr_add_ok h2
      rw [h5,h4]
     refine ⟨by omega,RepC.of_cells hb1 (fun j hj=>h1 j (by omega)),?_⟩
     have : a.off + (o + 1) * P.cellsOf e = a.off + o * P.cellsOf e + P.cellsOf e:=by rw [Nat.succ_mul]; omega
     rw [← this]
     exact hr
    ·simp only [List.map_cons,List.sum_cons,dbulks]
     omega
    ·intro c hcm
     rcases List.mem_cons.1 hcm with rfl | hcm
     ·exact hb3
     ·exact hw c hcm
  obtain ⟨l,hl,hr,hs,hw⟩:=key elems 0 (fun i hi=>by rw [Nat.zero_add]; exact hel i (by omega))
  refine ⟨l,repl_cons ?_ repl_nil,?_,hw⟩
  ·simp only [Rep]
   by_cases h0 : len = 0
   ·left
    have : l = []:=List.length_eq_zero_iff.1 (by omega)
    subst this
    exact ⟨rfl,a,cap,by rw [h0]⟩
   ·right
    have h1:=hel 0 (by omega)
    rw [List.getElem?_eq_getElem (by omega)] at h1
    simp only [Nat.zero_mul,Option.bind_eq_some_iff] at h1
    obtain ⟨vs,hv,_⟩:=h1
    obtain ⟨hvl,hvc⟩:=cells_of hv
    have h2:=hvc 0 hc
    rw [List.getElem?_eq_getElem (by omega)] at h2
    have h3 : a.add 0 = a:=by simp [Addr.add]
    simp only [h3] at h2
    have h4:=cell_spot h2
    refine ⟨a.block,a.off,cap,P.cellsOf e,?_,by simp only [List.length_map]; omega,?_⟩
    ·rw [← h4]; simp only [List.length_map]; rw [hl,hlen]
    ·simpa using hr
  ·simp only [dbulk]
   omega
theorem OpnF.nil {o : Nat} : OpnF enc P W N [] o o (fun _ : Unit=>[]) (fun _=>0) (fun _=>True):=by
 intro fuel cs xs _ _ hl _
 exact ⟨(),by rw [List.drop_eq_nil_of_le (by omega)]; exact repl_nil,Nat.zero_le _,trivial⟩
theorem OpnF.cons {α β : Type} {ca : α → List AV} {sa : α → Nat} {wa : α → Prop} {cb : β → List AV} {sb : β → Nat} {wb : β → Prop} {o c z : Nat} {fs : List (Nat × TypeId)} (h : Opn enc P W N t ca sa wa) (hc : P.cellsOf t = c) (hr : OpnF enc P W N fs (o + c) z cb sb wb) :
  OpnF enc P W N ((o,t) :: fs) o z (fun p : α × β=>ca p.1 ++ cb p.2) (fun p=>sa p.1 + sb p.2) (fun p=>wa p.1 ∧ wb p.2):=by
 intro fuel cs xs hf hl hcl hx
 cases xs with
 | nil=>simp at hl
 | cons x xs =>
  have h0:=hx 0 (o,t) rfl
  simp only [List.getElem?_cons_zero] at h0
  obtain ⟨a,a1,a2,a3⟩:=h fuel _ x hf h0
  obtain ⟨b,b1,b2,b3⟩:=hr fuel cs xs hf (by simpa using hl) hcl (fun i f hi=>by simpa using hx (i + 1) f (by simpa using hi))
  refine ⟨(a,b),?_,by simp only [List.map_cons,dbulks]; omega,a3,b3⟩
  have:=RepL.append a1 b1
  rw [hc] at this
  have e : (cs.drop o).take c ++ cs.drop (o + c) = cs.drop o:=by rw [← List.drop_drop,List.take_append_drop]
  rwa [e] at this
theorem Opn.struct {α : Type} {fs : Array Field} {l : List (Nat × TypeId)} {z : Nat} {cells : α → List AV} {size : α → Nat} {wf : α → Prop} (ht : P.underlying t = some (.struct fs)) (hl : fs.toList.map (fun f=>(f.offset,f.type)) = l) (hz : P.cellsOf t = z) (h : OpnF enc P W N l 0 z cells size wf) :
  Opn enc P W (N + 1) t cells (fun a=>size a + 1) wf:=by
 intro fuel cs x hf hx
 obtain ⟨xs,n,rfl,rfl,hcl,hxl,hxs⟩:=DataW.trod_struct ht hx
 obtain ⟨a,a1,a2,a3⟩:=h n cs xs (by omega) (by rw [hxl,← hl]; simp) (by omega) (fun i f hi=>by
  rw [← hl,List.getElem?_map,Option.map_eq_some_iff] at hi
  obtain ⟨g,hg,rfl⟩:=hi
  exact hxs i g (by simpa using hg))
 refine ⟨a,by simpa using a1,?_,a3⟩
 simp only [dbulk]
 omega
theorem Opn.zero {α : Type} {cells : α → List AV} {size : α → Nat} {wf : α → Prop} : Opn enc P W 0 t cells size wf:=by
 intro fuel cs x hf hx
 obtain rfl : fuel = 0:=by omega
 simp [DataW.trod] at hx
end
/-! objects -/
mutual
def Pob.tot : Pob → Nat
 | .mk _ _ _ s ks l=>s.length + (ks.map fun k=>k.length + 1).sum + tots l + 7
def tots : List Pob → Nat
 | []=>0
 | o :: l=>o.tot + tots l
end
def inI64 (n : Int) : Prop:=-9223372036854775808 ≤ n ∧ n ≤ 9223372036854775807
mutual
def Pob.wf : Pob → Prop
 | .mk k n g _ _ l=>inI64 k ∧ inI64 n ∧ inI64 g ∧ wfs l
def wfs : List Pob → Prop
 | []=>True
 | o :: l=>o.wf ∧ wfs l
end
theorem tots_map (l : List Pob) : (l.map Pob.tot).sum = tots l:=by
 induction l with
 | nil=>simp [tots]
 | cons o l ih=>simp only [List.map_cons,List.sum_cons,tots,ih]
theorem wfs_of {l : List Pob} (h : ∀ o ∈ l,o.wf) : wfs l:=by
 induction l with
 | nil=>simp only [wfs]
 | cons o l ih=>simp only [wfs]; exact ⟨h o (by simp),ih fun x hx=>h x (by simp [hx])⟩
theorem keys_sum (ks : List (List UInt8)) : ks.length ≤ (ks.map fun k=>k.length + 1).sum:=by
 induction ks with
 | nil=>simp
 | cons k ks ih=>simp only [List.map_cons,List.sum_cons,List.length_cons]; omega
mutual
theorem Pob.bulk_tot : ∀ o : Pob,o.bulk + 1 ≤ o.tot
 | .mk _ _ _ s ks l=>by
  simp only [Pob.bulk,Pob.tot]
  have:=bulks_tots l
  have:=keys_sum ks
  omega
theorem bulks_tots : ∀ l : List Pob,l.length + bulks l ≤ tots l
 | []=>by simp [bulks,tots]
 | o :: l=>by
  simp only [bulks,tots,List.length_cons]
  have:=Pob.bulk_tot o
  have:=bulks_tots l
  omega
end
structure ObjT (P : Program) (tO tI tL tS tKs tOs : TypeId) : Prop where
 o : ∃ fs,P.underlying tO = some (.struct fs) ∧ fs.toList.map (fun f=>(f.offset,f.type)) = [(0,tI),(1,tL),(2,tI),(3,tS),(4,tKs),(5,tOs)]
 i : P.underlying tI = some (.int .i64)
 l : P.underlying tL = some (.int .i64)
 s : P.underlying tS = some .string
 ks : P.underlying tKs = some (.slice tS)
 os : P.underlying tOs = some (.slice tO)
 c : P.cellsOf tO = 6 ∧ P.cellsOf tI = 1 ∧ P.cellsOf tL = 1 ∧ P.cellsOf tS = 1 ∧ P.cellsOf tKs = 1 ∧ P.cellsOf tOs = 1
section
variable {H : Type} {enc : TypeId × Value → H} {P : Program} {W : World} {tO tI tL tS tKs tOs : TypeId}
theorem Opn.strs (T : ObjT P tO tI tL tS tKs tOs) (N : Nat) : Opn enc P W N tKs (fun l : List (List UInt8)=>[.sl (strsAV l)]) (fun l=>(l.map fun k=>k.length + 1).sum + 1) (fun _=>True):=by
 cases N with
 | zero=>exact Opn.zero
 | succ N =>
  refine Opn.as id (Opn.slice T.ks (by rw [T.c.2.2.2.1]; decide) (Opn.str (N:=N) T.s)) (fun a=>?_) (fun a=>Nat.le_refl _) (fun _ _=>trivial)
  simp [strsAV]
theorem Opn.obj (T : ObjT P tO tI tL tS tKs tOs) (N : Nat) : Opn enc P W N tO Pob.cells Pob.tot Pob.wf:=by
 induction N using Nat.strongRecOn with
 | ind N IH =>
  cases N with
  | zero=>exact Opn.zero
  | succ N =>
   have hos : Opn enc P W N tOs (fun l : List Pob=>[.sl (objsAV l)]) (fun l=>tots l + 1) wfs:=by
    cases N with
    | zero=>exact Opn.zero
    | succ N =>
     refine Opn.as id (Opn.slice T.os (by rw [T.c.1]; decide) (IH N (by omega))) (fun a=>?_) (fun a=>?_) (fun a h=>wfs_of h)
     ·simp [objsAV_map]
     ·rw [tots_map]; exact Nat.le_refl _
   obtain ⟨fs,h1,h2⟩:=T.o
   obtain ⟨c0,c1,c2,c3,c4,c5⟩:=T.c
   refine Opn.as (fun p : Int × Int × Int × List UInt8 × List (List UInt8) × List Pob × Unit=>Pob.mk p.1 p.2.1 p.2.2.1 p.2.2.2.1 p.2.2.2.2.1 p.2.2.2.2.2.1)
    (Opn.struct h1 h2 c0 (OpnF.cons (Opn.int T.i) c1 (OpnF.cons (Opn.int T.l) c2 (OpnF.cons (Opn.int T.i) c1 (OpnF.cons (Opn.str T.s) c3 (OpnF.cons (Opn.strs T N) c4 (OpnF.cons hos c5 OpnF.nil))))))) ?_ ?_ ?_
   ·intro a; simp [Pob.cells]
   ·intro a; simp only [Pob.tot]; omega
   ·intro a ⟨ha,hb,hc,_,_,hl,_⟩
    simp only [Pob.wf]
    exact ⟨wf_i64 ha,wf_i64 hb,wf_i64 hc,hl⟩
end
/-! arguments -/
section
variable {H : Type} {enc : TypeId × Value → H} {P : Program} {W : World} {t : TypeId} {b0 : Nat} {r : Reach} {v : Value} {d : DataW H} {ps : List MemPlace}
theorem Opn.agg {α : Type} {cells : α → List AV} {size : α → Nat} {wf : α → Prop} {fs : Array Field} (ht : P.underlying t = some (.struct fs)) (h : ∀ N,Opn enc P W N t cells size wf) (hval : Value.okWide P W r b0 t v) (hd : DataW.Trod enc P W 0 (fun _=>true) true t v d ps) :
  ∃ a,Rep (gmA W) 1 (.agg (cells a)) v ∧ size a ≤ dbulk d ∧ wf a:=by
 obtain ⟨cs,rfl,_⟩:=okWide_struct ht hval
 obtain ⟨fuel,hf⟩:=hd
 obtain ⟨a,h1,h2,h3⟩:=h fuel fuel _ _ (Nat.le_refl _) hf
 refine ⟨a,?_,h2,h3⟩
 simp only [Rep]
 exact ⟨cs,rfl,RepL.down (by decide) _ _ h1⟩
theorem Opn.sl {α : Type} {av : α → AV} {size : α → Nat} {wf : α → Prop} {e : TypeId} (ht : P.underlying t = some (.slice e)) (h : ∀ N,Opn enc P W N t (fun a=>[av a]) size wf) (hval : Value.okWide P W r b0 t v) (hd : DataW.Trod enc P W 0 (fun _=>true) true t v d ps) :
  ∃ a,Rep (gmA W) 1 (av a) v ∧ size a ≤ dbulk d ∧ wf a:=by
 obtain ⟨A,n,c,rfl⟩:=okWide_slice ht hval
 obtain ⟨fuel,hf⟩:=hd
 obtain ⟨a,h1,h2,h3⟩:=h fuel fuel _ _ (Nat.le_refl _) hf
 refine ⟨a,?_,h2,h3⟩
 simp only [RepL,Value.cells] at h1
 obtain ⟨u,rest,hu,hr,_⟩:=h1
 cases hu
 exact Rep.down (by decide) _ _ hr
end
end Aw

namespace Aw
open Go
def intO (n : Int) : Pob:=.mk 2 n 0 [] [] []
def refO (n g : Int) : Pob:=.mk 8 n g [] [] []
mutual
def Pob.depth : Pob → Nat
 | .mk _ _ _ _ _ l=>depths l + 1
def depths : List Pob → Nat
 | []=>0
 | o :: l=>max o.depth (depths l)
end
attribute [irreducible] Pob.depth depths
theorem bl_irrefl : ∀ a : List UInt8,Op.bytesLess a a = false
 | []=>rfl
 | a :: x=>by simp [Op.bytesLess,bl_irrefl x,UInt8.lt_irrefl]
theorem bl_trans : ∀ a b c : List UInt8,Op.bytesLess a b = true → Op.bytesLess b c = true → Op.bytesLess a c = true
 | a,[],c,h,_=>by cases a <;> simp [Op.bytesLess] at h
 | [],b :: y,[],_,h=>by simp [Op.bytesLess] at h
 | [],b :: y,c :: z,_,_=>by simp [Op.bytesLess]
 | a :: x,b :: y,[],_,h=>by simp [Op.bytesLess] at h
 | a :: x,b :: y,c :: z,h,h'=>by
  simp only [Op.bytesLess,Bool.or_eq_true,decide_eq_true_eq,Bool.and_eq_true,beq_iff_eq] at h h' ⊢
  rcases h with h | ⟨rfl,h⟩
  ·rcases h' with h' | ⟨rfl,h'⟩
   ·exact .inl (UInt8.lt_trans h h')
   ·exact .inl h
  ·rcases h' with h' | ⟨rfl,h'⟩
   ·exact .inl h'
   ·exact .inr ⟨rfl,bl_trans x y z h h'⟩
theorem bl_total : ∀ a b : List UInt8,a = b ∨ Op.bytesLess a b = true ∨ Op.bytesLess b a = true
 | [],[]=>.inl rfl
 | [],_ :: _=>.inr (.inl rfl)
 | _ :: _,[]=>.inr (.inr rfl)
 | a :: x,b :: y=>by
  simp only [Op.bytesLess,Bool.or_eq_true,decide_eq_true_eq,Bool.and_eq_true,beq_iff_eq,List.cons.injEq]
  rcases UInt8.lt_or_lt_of_ne (a:=a) (b:=b) |> fun h=>Classical.em (a = b) |>.elim (fun e=>Or.inl e) (fun e=>Or.inr (h e)) with h | h | h
  ·subst h
   rcases bl_total x y with h | h | h
   ·exact .inl ⟨rfl,h⟩
   ·exact .inr (.inl (.inr ⟨rfl,h⟩))
   ·exact .inr (.inr (.inr ⟨rfl,h⟩))
  ·exact .inr (.inl (.inl h))
  ·exact .inr (.inr (.inl h))
theorem bl_asymm {a b : List UInt8} (h : Op.bytesLess a b = true) : Op.bytesLess b a = false:=by
 cases h' : Op.bytesLess b a with
 | false=>rfl
 | true=>have:=bl_trans a b a h h'; rw [bl_irrefl] at this; cases this
def incr (ks : List (List UInt8)) : Prop:=∀ a b,a < b → b < ks.length → Op.bytesLess (ks.getD a []) (ks.getD b []) = true
theorem incr_of_next {ks : List (List UInt8)} (h : ∀ i,i + 1 < ks.length → Op.bytesLess (ks.getD i []) (ks.getD (i + 1) []) = true) : incr ks:=by
 intro a b hab hb
 induction b with
 | zero=>omega
 | succ b ih =>
  by_cases e : a = b
  ·subst e; exact h a hb
  ·exact bl_trans _ _ _ (ih (by omega) (by omega)) (h b hb)
def kplace (ks : List (List UInt8)) (key : List UInt8) : Nat:=ks.findIdx (fun k=>!Op.bytesLess k key)
def kthere (ks : List (List UInt8)) (key : List UInt8) : Bool:=decide (kplace ks key < ks.length) && decide (ks.getD (kplace ks key) [] = key)
def insAt {α : Type} (l : List α) (i : Nat) (x : α) : List α:=l.take i ++ x :: l.drop i
def delAt {α : Type} (l : List α) (i : Nat) : List α:=l.take i ++ l.drop (i + 1)
def Pob.withK (o : Pob) (key : List UInt8) (v : Pob) : Pob :=
 if kthere o.keys key = true then .mk o.kind o.num o.gen o.str o.keys (o.kids.set (kplace o.keys key) v)
 else .mk o.kind o.num o.gen o.str (insAt o.keys (kplace o.keys key) key) (insAt o.kids (kplace o.keys key) v)
def Pob.lessK (o : Pob) (i : Nat) : Pob:=.mk o.kind o.num o.gen o.str (delAt o.keys i) (delAt o.kids i)
theorem headD_nil' {α : Type} (d : α) : ([] : List α).headD d = d:=rfl
attribute [go_sem] headD_nil'
attribute [irreducible] kplace
end Aw

namespace Aw
open Go
set_option linter.unusedVariables false
theorem nil_strs {ks : List (List UInt8)} {b : Bool} (h : strsAV ks ≠ [] → b = false) (hb : b = true) : ks = []:=by
 subst hb
 cases ks with
 | nil=>rfl
 | cons a l=>exact absurd (h (by simp [strsAV])) (by simp)
def keyedB (k : Int) : Bool:=decide (k = 7) || decide (k = 9)
def kidx (ks : List (List UInt8)) (k : List UInt8) : Nat:=ks.findIdx (fun x=>decide (x = k))
def kidxI (ks : List (List UInt8)) (k : List UInt8) : Int:=if kidx ks k < ks.length then kidx ks k else -1
theorem kidx_hit {ks : List (List UInt8)} {k : List UInt8} {i : Nat} (h : i < ks.length) (hs : ∀ j,j < i → ks.getD j [] ≠ k) (hk : k = ks.getD i []) : kidxI ks k = i:=by
 have : kidx ks k = i:=by
  unfold kidx
  rw [List.findIdx_eq h]
  refine ⟨by simp [hk,List.getD,h],fun j hj=>?_⟩
  have:=hs j hj
  simp only [List.getD,List.getElem?_eq_getElem (Nat.lt_trans hj h),Option.getD_some] at this
  simpa using this
 simp [kidxI,this,h]
theorem kidx_miss {ks : List (List UInt8)} {k : List UInt8} (hs : ∀ j,j < ks.length → ks.getD j [] ≠ k) : kidxI ks k = -1:=by
 have : ¬ kidx ks k < ks.length:=by
  intro h
  have h2 : decide (ks[kidx ks k] = k) = true:=List.findIdx_getElem (p:=fun x=>decide (x = k)) (w:=h)
  have e : ks.getD (kidx ks k) [] = ks[kidx ks k]:=by simp [List.getD,h]
  exact hs _ h (e.trans (of_decide_eq_true h2))
 simp [kidxI,this]
def getB (o : Pob) (key : List UInt8) : Bool:=keyedB o.kind && decide (0 ≤ kidxI o.keys key) && decide (kidxI o.keys key < o.kids.length)
def getO (o : Pob) (key : List UInt8) : Pob:=if getB o key = true then o.kids.getD (kidxI o.keys key).toNat Pob.null else Pob.null
theorem get_unkeyed {o : Pob} {key : List UInt8} (h : keyedB o.kind = false) : getB o key = false ∧ getO o key = Pob.null:=by
 simp [getO,getB,h]
theorem get_miss {o : Pob} {key : List UInt8} (h : kidxI o.keys key < 0 ∨ (o.kids.length : Int) ≤ kidxI o.keys key) : getB o key = false ∧ getO o key = Pob.null:=by
 have : getB o key = false:=by simp only [getB,Bool.and_eq_false_iff,decide_eq_false_iff_not]; omega
 exact ⟨this,by simp [getO,this]⟩
theorem get_hit {o : Pob} {key : List UInt8} (h : keyedB o.kind = true) (h' : 0 ≤ kidxI o.keys key ∧ kidxI o.keys key < o.kids.length) : getB o key = true ∧ getO o key = o.kids.getD (kidxI o.keys key).toNat Pob.null:=by
 have : getB o key = true:=by simp [getB,h,h']
 exact ⟨this,by simp [getO,this]⟩
theorem takeS_succ {a b : List (List UInt8)} {i : Nat} (h : i < a.length) (hl : a.length = b.length) (he : a.take i = b.take i) (hg : a.getD i [] = b.getD i []) : a.take (i + 1) = b.take (i + 1):=by
 rw [List.take_succ_eq_append_getElem h,List.take_succ_eq_append_getElem (hl ▸ h),he]
 simp only [List.getD,List.getElem?_eq_getElem h,List.getElem?_eq_getElem (hl ▸ h),Option.getD_some] at hg
 rw [hg]
theorem Pob_eq (a b : Pob) : a = b ↔ a.kind = b.kind ∧ a.num = b.num ∧ a.gen = b.gen ∧ a.str = b.str ∧ a.keys = b.keys ∧ a.kids = b.kids:=by
 cases a; cases b; simp [Pob.kind,Pob.num,Pob.gen,Pob.str,Pob.keys,Pob.kids]
theorem takeO_succ {a b : List Pob} {i : Nat} (h : i < a.length) (hl : a.length = b.length) (he : a.take i = b.take i) (hg : a.getD i Pob.null = b.getD i Pob.null) : a.take (i + 1) = b.take (i + 1):=by
 rw [List.take_succ_eq_append_getElem h,List.take_succ_eq_append_getElem (hl ▸ h),he]
 simp only [List.getD,List.getElem?_eq_getElem h,List.getElem?_eq_getElem (hl ▸ h),Option.getD_some] at hg
 rw [hg]
def fitsB (o : Pob) : Bool :=
 if o.kind = 1 then decide (0 ≤ o.num) && decide (o.num ≤ 1)
 else if o.kind = 2 then decide (-2147483647 ≤ o.num) && decide (o.num ≤ 2147483647)
 else if o.kind = 3 then decide (-1073741824 ≤ o.num) && decide (o.num ≤ 1073741824)
 else if o.kind = 8 then (decide (1 ≤ o.num) && decide (o.num ≤ 8191)) && (decide (0 ≤ o.gen) && decide (o.gen ≤ 65535))
 else true
def shortB (o : Pob) : Bool :=
 if o.kind = 4 then decide ((o.str.length : Int) ≤ 32767) else if o.kind = 5 then decide ((o.str.length : Int) ≤ 127) else decide ((o.str.length : Int) ≤ 1048576)
def uN (k : Int) : Bool:=decide (k = 1) || decide (k = 2) || decide (k = 3) || decide (k = 8)
def uG (k : Int) : Bool:=decide (k = 8)
def uS (k : Int) : Bool:=decide (k = 4) || decide (k = 5) || decide (k = 9)
def uKeys (k : Int) : Bool:=decide (k = 7) || decide (k = 9)
def uKids (k : Int) : Bool:=decide (k = 6) || decide (k = 7) || decide (k = 9)
def uOk (k : Int) : Bool:=decide (0 ≤ k) && decide (k ≤ 9)
theorem used_eq {k : Int} {a b c d e f : Bool} (h1 : uN k = a) (h2 : uG k = b) (h3 : uS k = c) (h4 : uKeys k = d) (h5 : uKids k = e) (h6 : uOk k = f) :
  AE.ret (.tup [.agg [.bool a,.bool b,.bool c,.bool d,.bool e],.bool f]) = AE.ret (.tup [.agg [.bool (uN k),.bool (uG k),.bool (uS k),.bool (uKeys k),.bool (uKids k)],.bool (uOk k)]):=by
 subst h1 h2 h3 h4 h5 h6; rfl
def nameB (s : List UInt8) : Bool:=decide ((s.length : Int) ≤ 127) && decide (Lib.indexByte s 0 < 0)
def okKey (o : Pob) (i : Nat) : Prop :=
 nameB (o.keys.getD i []) = true ∧ (0 < i → Op.bytesLess (o.keys.getD (i - 1) []) (o.keys.getD i []) = true) ∧ ¬ (o.kind = 9 ∧ o.keys.getD i [] = [76,101,110,103,116,104]) ∧ (o.kids.getD i Pob.null).kind ≠ 0
def risingP (o : Pob) : Prop:=o.keys.length = o.kids.length ∧ ∀ i,i < o.keys.length → okKey o i
instance (o : Pob) (i : Nat) : Decidable (okKey o i):=by unfold okKey; infer_instance
instance (o : Pob) : Decidable (risingP o):=by unfold risingP; infer_instance
def risingB (o : Pob) : Bool:=decide (risingP o)
theorem rising_no {o : Pob} (h : ¬ risingP o) : risingB o = false:=by simp [risingB,h]
theorem rising_yes {o : Pob} (h : risingP o) : risingB o = true:=by simp [risingB,h]
def useB (o : Pob) (d : Int) : Bool :=
 bif bif bif bif bif bif uOk o.kind then bif uN o.kind then true else decide (o.num = 0) else false then bif uG o.kind then true else decide (o.gen = 0) else false then bif uS o.kind then true else decide (o.str = []) else false
  then bif uKeys o.kind then true else decide ((o.keys.length : Int) = 0) else false then bif uKids o.kind then true else decide ((o.kids.length : Int) = 0) else false then bif decide (d = 1) then true else !decide (o.kind = 9) else false
def formB (o : Pob) : Bool:=bif bif !decide (o.kind = 5) then true else nameB o.str then bif !uKeys o.kind then true else risingB o else false
def ownE (o : Pob) (d : Int) : Int :=
 if ¬ d ≤ 24 then 7 else if useB o d = false then 10 else if fitsB o = false then 2 else if shortB o = false then 5 else if ¬ (o.kids.length : Int) ≤ 8191 then 6 else if formB o = false then 3 else 0
mutual
def chk : Pob → Int → Int
 | .mk k n g s ks l,d=>if ownE (.mk k n g s ks l) d = 0 then chkL l (d + 1) else ownE (.mk k n g s ks l) d
def chkL : List Pob → Int → Int
 | [],_=>0
 | o :: l,d=>if chk o d = 0 then chkL l d else chk o d
end
theorem chk_eq (o : Pob) (d : Int) : chk o d = if ownE o d = 0 then chkL o.kids (d + 1) else ownE o d:=by cases o; simp only [chk,Pob.kids]
theorem chk_bad {o : Pob} {d e : Int} (h : ownE o d = e) (he : e ≠ 0) : chk o d = e:=by rw [chk_eq,if_neg (by omega),h]
theorem chkL_drop {l : List Pob} {i : Nat} {d : Int} (h : i < l.length) : chkL (l.drop i) d = if chk (l.getD i Pob.null) d = 0 then chkL (l.drop (i + 1)) d else chk (l.getD i Pob.null) d:=by
 rw [List.drop_eq_getElem_cons h]
 have : l.getD i Pob.null = l[i]:=by simp [List.getD,h]
 rw [this]
 simp only [chkL]
attribute [irreducible] chk chkL ownE

/-! what validity gives -/
theorem chk_own {o : Pob} {d : Int} (h : chk o d = 0) : ownE o d = 0:=by
 rw [chk_eq] at h
 split at h
 ·assumption
 ·exact absurd h (by assumption)
theorem ownE_spec {o : Pob} {d : Int} (h : ownE o d = 0) : d ≤ 24 ∧ useB o d = true ∧ fitsB o = true ∧ shortB o = true ∧ (o.kids.length : Int) ≤ 8191 ∧ formB o = true:=by
 unfold ownE at h
 repeat' split at h
 all_goals first | omega | simp_all
theorem chk_rising {o : Pob} {d : Int} (h : chk o d = 0) (hk : keyedB o.kind = true) : risingP o:=by
 have h1:=(ownE_spec (chk_own h)).2.2.2.2.2
 have h2 : uKeys o.kind = true:=hk
 unfold formB at h1
 rw [h2] at h1
 cases h3 : risingB o with
 | true=>simpa [risingB] using h3
 | false=>rw [h3] at h1; revert h1; cases (bif !decide (o.kind = 5) then true else nameB o.str) <;> simp
theorem rising_incr {o : Pob} (h : risingP o) : incr o.keys:=by
 refine incr_of_next fun i hi=>?_
 have:=(h.2 (i + 1) hi).2.1 (by omega)
 simpa using this
end Aw

namespace Aw
open Go
def dropB (o : Pob) (key : List UInt8) : Bool:=keyedB o.kind && decide (chk o 1 = 0) && kthere o.keys key
def dropO (o : Pob) (key : List UInt8) : Pob:=if dropB o key = true then o.lessK (kplace o.keys key) else o
def setE (o : Pob) (key : List UInt8) (v : Pob) : Int:=if keyedB o.kind = false then 10 else if chk o 1 ≠ 0 then chk o 1 else if v.kind = 0 then 0 else chk (o.withK key v) 1
def setO (o : Pob) (key : List UInt8) (v : Pob) : Pob:=if setE o key v ≠ 0 then Pob.null else if v.kind = 0 then dropO o key else o.withK key v
def Pob.strm (o : Pob) (s : List UInt8) : Pob:=.mk 9 o.num o.gen s o.keys o.kids
def lengthK : List UInt8:=[76,101,110,103,116,104]
def streamE (o : Pob) (s : List UInt8) : Int:=if o.kind ≠ 7 then 10 else if chk o 1 ≠ 0 then chk o 1 else chk ((dropO o lengthK).strm s) 1
def streamO (o : Pob) (s : List UInt8) : Pob:=if streamE o s ≠ 0 then Pob.null else (dropO o lengthK).strm s
attribute [irreducible] setE setO streamE streamO dropO
def dict0 : Pob:=.mk 7 0 0 [] [] []
def dictL : List Pob → List (List UInt8) → Pob → Option Pob
 | k :: v :: r,met,o=>if k.str ∈ met then none else dictL r (setAdd met k.str) (if v.kind ≠ 0 then o.withK k.str v else o)
 | _,_,o=>some o
def dictArg (ps : List Pob) : Bool:=decide (ps.length % 2 = 0) && decide (∀ i,i < ps.length → i % 2 = 0 → (ps.getD i Pob.null).kind = 5)
def dictE (ps : List Pob) : Int:=if dictArg ps = false then 1 else match dictL ps [] dict0 with
 | none=>9
 | some o=>chk o 1
def dictO (ps : List Pob) : Pob:=if dictArg ps = false then Pob.null else match dictL ps [] dict0 with
 | none=>Pob.null
 | some o=>if chk o 1 = 0 then o else Pob.null
attribute [go_sem] dict0
attribute [irreducible] dictL dictE dictO
def nidx (l : List Int) (n : Int) : Nat:=l.findIdx (fun x=>decide (x = n))
def nidxI (l : List Int) (n : Int) : Int:=if nidx l n < l.length then nidx l n else -1
theorem nidx_hit {l : List Int} {n : Int} {i : Nat} (h : i < l.length) (hs : ∀ j,j < i → l.getD j 0 ≠ n) (hk : l.getD i 0 = n) : nidxI l n = i:=by
 have : nidx l n = i:=by
  unfold nidx
  rw [List.findIdx_eq h]
  refine ⟨by simpa [List.getD,h] using hk,fun j hj=>?_⟩
  have:=hs j hj
  simp only [List.getD,List.getElem?_eq_getElem (Nat.lt_trans hj h),Option.getD_some] at this
  simpa using this
 simp [nidxI,this,h]
theorem nidx_miss {l : List Int} {n : Int} (hs : ∀ j,j < l.length → l.getD j 0 ≠ n) : nidxI l n = -1:=by
 have : ¬ nidx l n < l.length:=by
  intro h
  have h2 : decide (l[nidx l n] = n) = true:=List.findIdx_getElem (p:=fun x=>decide (x = n)) (w:=h)
  have e : l.getD (nidx l n) 0 = l[nidx l n]:=by simp [List.getD,h]
  exact hs _ h (e.trans (of_decide_eq_true h2))
 simp [nidxI,this]
def swB (fr to : List Int) (k n : Int) : Bool:=decide (k = 8) && (decide (0 ≤ nidxI fr n) && decide (nidxI fr n < to.length))
def swN (fr to : List Int) (k n : Int) : Int:=if swB fr to k n = true then to.getD (nidxI fr n).toNat 0 else n
def swG (fr to : List Int) (k n g : Int) : Int:=if swB fr to k n = true then 0 else g
mutual
def Pob.swap (fr to : List Int) : Pob → Pob
 | .mk k n g s ks l=>.mk k (swN fr to k n) (swG fr to k n g) s ks (swaps fr to l)
def swaps (fr to : List Int) : List Pob → List Pob
 | []=>[]
 | o :: l=>o.swap fr to :: swaps fr to l
end
attribute [irreducible] Pob.swap swaps nidxI
def typeK : List UInt8:=[84,121,112,101]
def docKind (o : Pob) : List UInt8:=if (getO o typeK).kind = 5 then (getO o typeK).str else []
def holdsB (o : Pob) : Bool:=bif decide (o.kind = 9) then bif decide (docKind o = [79,98,106,83,116,109]) then true else decide (docKind o = [88,82,101,102]) else false
def numsB (i : Itm) : Bool:=decide (1 ≤ i.num) && decide (i.num ≤ 8191) && decide (0 ≤ i.gen) && decide (i.gen ≤ 65535)
theorem nums_no {i : Itm} (h : ((i.num < 1 ∨ 8191 < i.num) ∨ i.gen < 0) ∨ 65535 < i.gen) : numsB i = false:=by
 simp only [numsB,Bool.and_eq_false_iff,decide_eq_false_iff_not]; omega
theorem nums_yes {i : Itm} (h : ((1 ≤ i.num ∧ i.num ≤ 8191) ∧ 0 ≤ i.gen) ∧ i.gen ≤ 65535) : numsB i = true:=by
 simp only [numsB,Bool.and_eq_true,decide_eq_true_eq]; omega
def contentE (i : Itm) : Int:=if chk i.obj 1 ≠ 0 then chk i.obj 1 else if i.obj.kind = 8 ∨ holdsB i.obj = true then 10 else 0
def aloneE (i : Itm) : Int:=if numsB i = false then 2 else contentE i
theorem content_bad {i : Itm} (h : ¬ chk i.obj 1 = 0) : contentE i = chk i.obj 1:=by simp [contentE,h]
def itemsFrom (l : List Itm) (k : Nat) : Nat → Int
 | 0=>0
 | f + 1=>if k < l.length then (if numsB (l.getD k Itm.zero) = false then 2 else if 0 < k ∧ (l.getD k Itm.zero).num ≤ (l.getD (k - 1) Itm.zero).num then 9 else if contentE (l.getD k Itm.zero) ≠ 0 then contentE (l.getD k Itm.zero) else itemsFrom l (k + 1) f) else 0
def itemsE (l : List Itm) : Int:=itemsFrom l 0 l.length
theorem itemsFrom_step {l : List Itm} {k : Nat} (h : k < l.length) : itemsFrom l k (l.length - k) = if numsB (l.getD k Itm.zero) = false then 2 else if 0 < k ∧ (l.getD k Itm.zero).num ≤ (l.getD (k - 1) Itm.zero).num then 9 else if contentE (l.getD k Itm.zero) ≠ 0 then contentE (l.getD k Itm.zero) else itemsFrom l (k + 1) (l.length - (k + 1)):=by
 rw [show l.length - k = (l.length - (k + 1)) + 1 from by omega,itemsFrom,if_pos h]
def ibulk (l : List Itm) : Nat:=(l.map fun i=>i.obj.bulk + 1).sum
theorem ibulk_get {l : List Itm} {i : Nat} (h : i < l.length) : (l.getD i Itm.zero).obj.bulk + 1 ≤ ibulk l:=by
 induction l generalizing i with
 | nil=>simp at h
 | cons x l ih =>
  simp only [ibulk,List.map_cons,List.sum_cons]
  cases i with
  | zero=>simp only [List.getD_cons_zero]; omega
  | succ i =>
   have:=ih (i:=i) (by simpa using h)
   simp only [List.getD_cons_succ,ibulk] at this ⊢
   omega
theorem ibulk_len (l : List Itm) : l.length ≤ ibulk l:=by
 induction l with
 | nil=>simp [ibulk]
 | cons x l ih=>simp only [ibulk,List.map_cons,List.sum_cons,List.length_cons] at ih ⊢; omega
attribute [irreducible] itemsFrom contentE holdsB docKind
structure Dc where
 items : List Itm
 trailer : Pob
def Dc.cells (d : Dc) : List AV:=[.sl (itemsAV d.items),.int .i64 d.trailer.kind,.int .i64 d.trailer.num,.int .i64 d.trailer.gen,.str d.trailer.str,.sl (strsAV d.trailer.keys),.sl (objsAV d.trailer.kids)]
def Dc.bulk (d : Dc) : Nat:=ibulk d.items + d.trailer.bulk
attribute [go_sem] Dc.cells
def iidx (l : List Itm) (n : Int) : Nat:=l.findIdx (fun x=>decide (x.num = n))
def iidxI (l : List Itm) (n : Int) : Int:=if iidx l n < l.length then iidx l n else -1
theorem iidx_hit {l : List Itm} {n : Int} {i : Nat} (h : i < l.length) (hs : ∀ j,j < i → (l.getD j Itm.zero).num ≠ n) (hk : (l.getD i Itm.zero).num = n) : iidxI l n = i:=by
 have : iidx l n = i:=by
  unfold iidx
  rw [List.findIdx_eq h]
  refine ⟨by simpa [List.getD,h] using hk,fun j hj=>?_⟩
  have:=hs j hj
  simp only [List.getD,List.getElem?_eq_getElem (Nat.lt_trans hj h),Option.getD_some] at this
  simpa using this
 simp [iidxI,this,h]
theorem iidx_miss {l : List Itm} {n : Int} (hs : ∀ j,j < l.length → (l.getD j Itm.zero).num ≠ n) : iidxI l n = -1:=by
 have : ¬ iidx l n < l.length:=by
  intro h
  have h2 : decide (l[iidx l n].num = n) = true:=List.findIdx_getElem (p:=fun x : Itm=>decide (x.num = n)) (w:=h)
  have e : l.getD (iidx l n) Itm.zero = l[iidx l n]:=by simp [List.getD,h]
  exact hs _ h (by rw [e]; exact of_decide_eq_true h2)
 simp [iidxI,this]
theorem iidxI_lt {l : List Itm} {n : Int} : iidxI l n < l.length:=by
 unfold iidxI
 split <;> omega
attribute [irreducible] iidxI
def followO (d : Dc) (o : Pob) : Pob :=
 if o.kind ≠ 8 then o else if iidxI d.items o.num < 0 then Pob.null else if (d.items.getD (iidxI d.items o.num).toNat Itm.zero).gen ≠ o.gen then Pob.null else (d.items.getD (iidxI d.items o.num).toNat Itm.zero).obj
def rootK : List UInt8:=[82,111,111,116]
def trailK : List (List UInt8):=[[73,68],[73,110,102,111],[82,111,111,116]]
def trailOk (ks : List (List UInt8)) : Prop:=∀ i,i < ks.length → 0 ≤ kidxI trailK (ks.getD i [])
instance (ks : List (List UInt8)) : Decidable (trailOk ks):=by unfold trailOk; infer_instance
def trailE (d : Dc) : Int:=if chk d.trailer 1 ≠ 0 then chk d.trailer 1 else if d.trailer.kind ≠ 7 then 10 else if ¬ trailOk d.trailer.keys then 3
 else if (getO d.trailer rootK).kind ≠ 8 ∨ (followO d (getO d.trailer rootK)).kind ≠ 7 then 22 else 0
def docE (d : Dc) : Int:=if itemsE d.items ≠ 0 then itemsE d.items else trailE d
theorem trail_bad {d : Dc} (h : ¬ chk d.trailer 1 = 0) : trailE d = chk d.trailer 1:=by rw [trailE,if_pos h]
theorem trail_kind {d : Dc} (h : chk d.trailer 1 = 0) (h' : ¬ d.trailer.kind = 7) : trailE d = 10:=by rw [trailE,if_neg (by simpa using h),if_pos h']
theorem trail_key {d : Dc} (h : chk d.trailer 1 = 0) (h' : d.trailer.kind = 7) (h2 : ¬ trailOk d.trailer.keys) : trailE d = 3:=by rw [trailE,if_neg (by simpa using h),if_neg (by simpa using h'),if_pos h2]
theorem trail_root {d : Dc} (h : chk d.trailer 1 = 0) (h' : d.trailer.kind = 7) (h2 : trailOk d.trailer.keys) : trailE d = if (getO d.trailer rootK).kind ≠ 8 ∨ (followO d (getO d.trailer rootK)).kind ≠ 7 then 22 else 0:=by
 rw [trailE,if_neg (by simpa using h),if_neg (by simpa using h'),if_neg (by simpa using h2)]
theorem doc_bad {d : Dc} (h : ¬ itemsE d.items = 0) : docE d = itemsE d.items:=by rw [docE,if_pos h]
theorem doc_trail {d : Dc} (h : itemsE d.items = 0) : docE d = trailE d:=by rw [docE,if_neg (by simpa using h)]
theorem docE_items {d : Dc} (h : docE d = 0) : itemsE d.items = 0:=by
 unfold docE at h
 split at h
 ·assumption
 ·rename_i h'; simpa using h'
theorem docE_trail {d : Dc} (h : docE d = 0) : trailE d = 0:=by
 have h1:=docE_items h
 rwa [doc_trail h1] at h
def okItm (l : List Itm) (i : Nat) : Prop:=numsB (l.getD i Itm.zero) = true ∧ (0 < i → (l.getD (i - 1) Itm.zero).num < (l.getD i Itm.zero).num) ∧ contentE (l.getD i Itm.zero) = 0
theorem itemsFrom_ok {l : List Itm} : ∀ (f k : Nat),l.length - k = f → k ≤ l.length → (itemsFrom l k f = 0 ↔ ∀ i,k ≤ i → i < l.length → okItm l i)
 | 0,k,hf,hk=>by
  simp only [itemsFrom,true_iff]
  intro i h1 h2
  omega
 | f + 1,k,hf,hk=>by
  have hkl : k < l.length:=by omega
  have hs:=itemsFrom_step hkl
  rw [hf] at hs
  rw [hs]
  have ih:=itemsFrom_ok (l:=l) f (k + 1) (by omega) (by omega)
  rw [show l.length - (k + 1) = f from by omega]
  constructor
  ·intro h i h1 h2
   split at h
   ·omega
   ·rename_i g1
    split at h
    ·omega
    ·rename_i g2
     split at h
     ·rename_i g3; exact absurd h g3
     ·rename_i g3
      by_cases e : i = k
      ·subst e
       exact ⟨by simpa using g1,fun h0=>by omega,by simpa using g3⟩
      ·exact ih.1 h i (by omega) h2
  ·intro h
   have hk':=h k (Nat.le_refl _) hkl
   rw [if_neg (by rw [hk'.1]; simp),if_neg (by intro hh; have:=hk'.2.1 hh.1; omega),if_neg (by simpa using hk'.2.2)]
   exact ih.2 fun i h1 h2=>h i (by omega) h2
theorem items_ok {l : List Itm} : itemsE l = 0 ↔ ∀ i,i < l.length → okItm l i:=by
 unfold itemsE
 rw [itemsFrom_ok l.length 0 (by omega) (by omega)]
 exact ⟨fun h i hi=>h i (Nat.zero_le _) hi,fun h i _ hi=>h i hi⟩
def incrN (l : List Itm) : Prop:=∀ a b,a < b → b < l.length → (l.getD a Itm.zero).num < (l.getD b Itm.zero).num
theorem incrN_of_next {l : List Itm} (h : ∀ i,i + 1 < l.length → (l.getD i Itm.zero).num < (l.getD (i + 1) Itm.zero).num) : incrN l:=by
 intro a b hab hb
 induction b with
 | zero=>omega
 | succ b ih =>
  by_cases e : a = b
  ·subst e; exact h a hb
  ·exact Int.lt_trans (ih (by omega) (by omega)) (h b hb)
theorem items_incr {l : List Itm} (h : itemsE l = 0) : incrN l :=
 incrN_of_next fun i hi=>by
  have:=((items_ok.1 h) (i + 1) hi).2.1 (by omega)
  simpa using this
def iplace (l : List Itm) (n : Int) : Nat:=l.findIdx (fun x=>decide (n ≤ x.num))
def ithere (l : List Itm) (n : Int) : Bool:=decide (iplace l n < l.length) && decide ((l.getD (iplace l n) Itm.zero).num = n)
def layI (l : List Itm) (i : Itm) : List Itm:=if ithere l i.num = true then l.set (iplace l i.num) i else insAt l (iplace l i.num) i
def takeI (l : List Itm) (n : Int) : List Itm:=if ithere l n = true then delAt l (iplace l n) else l
theorem ibulk_cons (i : Itm) (l : List Itm) : ibulk (i :: l) = i.obj.bulk + 1 + ibulk l:=by simp [ibulk]
def Dc.zero : Dc:=⟨[],Pob.null⟩
def putE (d : Dc) (i : Itm) : Int:=if docE d ≠ 0 then docE d else if aloneE i ≠ 0 then aloneE i else docE ⟨layI d.items i,d.trailer⟩
def putO (d : Dc) (i : Itm) : Dc:=if putE d i ≠ 0 then Dc.zero else ⟨layI d.items i,d.trailer⟩
def dropE (d : Dc) (n : Int) : Int:=if docE d ≠ 0 then docE d else if ithere d.items n = false then 8 else docE ⟨takeI d.items n,d.trailer⟩
def dropD (d : Dc) (n : Int) : Dc:=if dropE d n ≠ 0 then Dc.zero else ⟨takeI d.items n,d.trailer⟩
def lastN (l : List Itm) : Int:=if l.length = 0 then 1 else (l.getD (l.length - 1) Itm.zero).num + 1
def freeE (d : Dc) : Int:=if docE d ≠ 0 then docE d else if 8191 < lastN d.items then 30 else 0
def freeN (d : Dc) : Int:=if freeE d ≠ 0 then 0 else lastN d.items
def addE (d : Dc) (o : Pob) : Int:=if freeE d ≠ 0 then freeE d else putE d ⟨freeN d,0,o⟩
def addO (d : Dc) (o : Pob) : Dc:=if addE d o ≠ 0 then Dc.zero else putO d ⟨freeN d,0,o⟩
def addN (d : Dc) (o : Pob) : Int:=if addE d o ≠ 0 then 0 else freeN d
attribute [irreducible] iplace docE trailE putE putO dropE dropD freeE freeN addE addO addN
end Aw
namespace Aw
open Go
theorem itemsAV_set (k : Nat) (i : Itm) (l : List Itm) : (itemsAV l).set k i.cells = itemsAV (l.set k i):=by simp [itemsAV,List.map_set]
theorem itemsAV_set' (k : Nat) (i : Itm) (l : List Itm) : (itemsAV l).set k [.int .i64 i.num,.int .i64 i.gen,.int .i64 i.obj.kind,.int .i64 i.obj.num,.int .i64 i.obj.gen,.str i.obj.str,.sl (strsAV i.obj.keys),.sl (objsAV i.obj.kids)] = itemsAV (l.set k i):=itemsAV_set k i l
def lookI (l : List Itm) (n : Int) : Option Itm:=if iidxI l n < 0 then none else some (l.getD (iidxI l n).toNat Itm.zero)
theorem look_miss {l : List Itm} {n : Int} (h : iidxI l n < 0) : lookI l n = none:=by unfold lookI; rw [if_pos h]
theorem look_hit {l : List Itm} {n : Int} (h : 0 ≤ iidxI l n) : lookI l n = some (l.getD (iidxI l n).toNat Itm.zero):=by unfold lookI; rw [if_neg (by omega)]
theorem get_bulk (o : Pob) (k : List UInt8) : (getO o k).bulk ≤ o.bulk:=by
 unfold getO
 split
 ·rename_i h
  simp only [getB,Bool.and_eq_true,decide_eq_true_eq] at h
  have:=Pob.bulk_kid (o:=o) (i:=(kidxI o.keys k).toNat) (by omega)
  omega
 ·have : Pob.null.bulk = 1:=by simp [Pob.null,Pob.bulk,bulks]
  rw [this,Pob.bulk_eq]
  omega
def pathL (d : Dc) : Pob → List (List UInt8) → Pob
 | o,[]=>o
 | o,k :: r=>if getB o k = false then Pob.null else pathL d (followO d (getO o k)) r
def diffB (a : List Itm) (i : Itm) : Bool:=!(ithere a i.num && decide (a.getD (iplace a i.num) Itm.zero = i))
def diffL (a b : Dc) : List Itm:=if docE a ≠ 0 ∨ docE b ≠ 0 then [] else b.items.filter (diffB a.items)
def goneB (b : List Itm) (i : Itm) : Bool:=!ithere b i.num
def diffG (a b : Dc) : List Int:=if docE a ≠ 0 ∨ docE b ≠ 0 then [] else (a.items.filter (goneB b.items)).map Itm.num
def applyT : List Itm → List Int → Option (List Itm)
 | l,[]=>some l
 | l,n :: r=>if ithere l n = true then applyT (takeI l n) r else none
def aloneL : List Itm → Int
 | []=>0
 | i :: r=>if aloneE i ≠ 0 then aloneE i else aloneL r
def applyE (d : Dc) (l : List Itm) (ns : List Int) : Int:=if docE d ≠ 0 then docE d else match applyT d.items ns with
 | none=>8
 | some x=>if aloneL l ≠ 0 then aloneL l else docE ⟨l.foldl layI x,d.trailer⟩
def applyD (d : Dc) (l : List Itm) (ns : List Int) : Dc:=if applyE d l ns ≠ 0 then Dc.zero else match applyT d.items ns with
 | none=>Dc.zero
 | some x=>⟨l.foldl layI x,d.trailer⟩
theorem sum_take {α : Type} {l : List α} {i : Nat} {f : α → Nat} {d : α} (h : i < l.length) : ((l.take (i + 1)).map f).sum = ((l.take i).map f).sum + f (l.getD i d):=by
 rw [List.take_succ_eq_append_getElem h,List.map_append,List.sum_append]
 simp [List.getD,h]
theorem sum_take_le {α : Type} (l : List α) (i : Nat) (f : α → Nat) : ((l.take i).map f).sum ≤ (l.map f).sum:=by
 have h : ((l.take i ++ l.drop i).map f).sum = ((l.take i).map f).sum + ((l.drop i).map f).sum:=by rw [List.map_append,List.sum_append]
 rw [List.take_append_drop] at h
 omega
def ksize (ks : List (List UInt8)) : Nat:=(ks.map fun k=>k.length / 50).sum
mutual
def Pob.psize : Pob → Nat
 | .mk _ _ _ s ks l=>1 + s.length / 50 + ksize ks + psizes l
def psizes : List Pob → Nat
 | []=>0
 | o :: l=>o.psize + psizes l
end
theorem Pob.psize_eq (o : Pob) : o.psize = 1 + o.str.length / 50 + ksize o.keys + psizes o.kids:=by cases o; simp only [Pob.psize,Pob.str,Pob.keys,Pob.kids]
theorem ksize_take {ks : List (List UInt8)} {i : Nat} (h : i < ks.length) : ksize (ks.take (i + 1)) = ksize (ks.take i) + (ks.getD i []).length / 50:=by
 exact sum_take h
theorem psizes_append (a b : List Pob) : psizes (a ++ b) = psizes a + psizes b:=by
 induction a with
 | nil=>simp [psizes]
 | cons x a ih=>simp only [List.cons_append,psizes,ih]; omega
theorem psizes_take {l : List Pob} {i : Nat} (h : i < l.length) : psizes (l.take (i + 1)) = psizes (l.take i) + (l.getD i Pob.null).psize:=by
 rw [List.take_succ_eq_append_getElem h,psizes_append]
 simp [psizes,List.getD,h]
theorem psizes_take_le (l : List Pob) (i : Nat) : psizes (l.take i) ≤ psizes l:=by
 have:=psizes_append (l.take i) (l.drop i)
 rw [List.take_append_drop] at this
 omega
theorem ksize_take_le (l : List (List UInt8)) (i : Nat) : ksize (l.take i) ≤ ksize l:=by
 exact sum_take_le l i _
theorem psizes_get {l : List Pob} {i : Nat} (h : i < l.length) : (l.getD i Pob.null).psize ≤ psizes l:=by
 have h1:=psizes_take h
 have h2:=psizes_take_le l (i + 1)
 omega
def isize (l : List Itm) : Nat:=(l.map fun i=>i.obj.psize).sum
theorem isize_take {l : List Itm} {i : Nat} (h : i < l.length) : isize (l.take (i + 1)) = isize (l.take i) + (l.getD i Itm.zero).obj.psize:=by
 exact sum_take (f:=fun i : Itm=>i.obj.psize) (d:=Itm.zero) h
theorem isize_take_le (l : List Itm) (i : Nat) : isize (l.take i) ≤ isize l:=by
 exact sum_take_le l i _
def Dc.size (d : Dc) : Nat:=d.trailer.psize + isize d.items
theorem ksize_nil : ksize [] = 0:=rfl
theorem psizes_nil : psizes [] = 0:=by simp only [psizes]
theorem isize_nil : isize [] = 0:=rfl
attribute [irreducible] Pob.psize psizes ksize isize pathL applyT aloneL applyE applyD diffL diffG
theorem incrN_iff {l : List Itm} : incrN l ↔ l.Pairwise (fun a b=>a.num < b.num):=by
 rw [List.pairwise_iff_getElem]
 constructor
 ·intro h i j hi hj hij
  have:=h i j hij hj
  simpa [List.getD,hi,hj] using this
 ·intro h a b hab hb
  have:=h a b (by omega) hb hab
  simpa [List.getD,hb,show a < l.length by omega] using this
theorem incr_one {l : List Itm} (h : incrN l) {x y : Itm} (hx : x ∈ l) (hy : y ∈ l) (hn : x.num = y.num) : x = y:=by
 rw [incrN_iff] at h
 induction l with
 | nil=>cases hx
 | cons a l ih =>
  rw [List.pairwise_cons] at h
  rcases List.mem_cons.1 hx with rfl | hx
  ·rcases List.mem_cons.1 hy with rfl | hy
   ·rfl
   ·have:=h.1 _ hy; omega
  ·rcases List.mem_cons.1 hy with rfl | hy
   ·rename_i hx'
    have:=h.1 _ hx'; omega
   ·exact ih h.2 (by assumption) (by assumption)
theorem getD_mem {l : List Itm} {i : Nat} (h : i < l.length) : l.getD i Itm.zero ∈ l:=by
 simp [List.getD,h]
theorem iidxI_cases (l : List Itm) (n : Int) : (∃ i : Nat,i < l.length ∧ iidxI l n = i ∧ (l.getD i Itm.zero).num = n) ∨ (iidxI l n = -1 ∧ ∀ x ∈ l,x.num ≠ n):=by
 by_cases h : iidx l n < l.length
 ·left
  have h2 : decide (l[iidx l n].num = n) = true:=List.findIdx_getElem (p:=fun x : Itm=>decide (x.num = n)) (w:=h)
  refine ⟨iidx l n,h,?_,?_⟩
  ·unfold iidxI; rw [if_pos h]
  ·rw [show l.getD (iidx l n) Itm.zero = l[iidx l n] by simp [List.getD,h]]; simpa using h2
 ·right
  refine ⟨by unfold iidxI; rw [if_neg h],fun x hx e=>h ?_⟩
  exact List.findIdx_lt_length_of_exists ⟨x,hx,by simpa using e⟩
theorem look_some {l : List Itm} (hs : incrN l) {n : Int} {x : Itm} : lookI l n = some x ↔ x ∈ l ∧ x.num = n:=by
 unfold lookI
 rcases iidxI_cases l n with ⟨i,hi,he,hn⟩ | ⟨he,hn⟩
 ·rw [he,if_neg (by omega),Int.toNat_natCast]
  constructor
  ·intro h
   injection h with h
   subst h
   exact ⟨getD_mem hi,hn⟩
  ·rintro ⟨hx,hxn⟩
   rw [incr_one hs (getD_mem hi) hx (by omega)]
 ·rw [he,if_pos (by decide)]
  constructor
  ·intro h; cases h
  ·rintro ⟨hx,hxn⟩
   exact absurd hxn (hn x hx)
theorem look_none {l : List Itm} {n : Int} : lookI l n = none ↔ ∀ x ∈ l,x.num ≠ n:=by
 unfold lookI
 rcases iidxI_cases l n with ⟨i,hi,he,hn⟩ | ⟨he,hn⟩
 ·rw [he,if_neg (by omega)]
  constructor
  ·intro h; cases h
  ·intro h; exact absurd hn (h _ (getD_mem hi))
 ·rw [he,if_pos (by decide)]
  exact ⟨fun _=>hn,fun _=>rfl⟩
theorem follow_look (d : Dc) (o : Pob) : followO d o = if o.kind ≠ 8 then o else match lookI d.items o.num with
  | none=>Pob.null
  | some x=>if x.gen ≠ o.gen then Pob.null else x.obj:=by
 unfold followO lookI
 split
 ·rfl
 ·split <;> rfl
theorem items_iff {l : List Itm} : itemsE l = 0 ↔ incrN l ∧ ∀ x ∈ l,numsB x = true ∧ contentE x = 0:=by
 constructor
 ·intro h
  refine ⟨items_incr h,fun x hx=>?_⟩
  obtain ⟨j,hj,rfl⟩:=List.getElem_of_mem hx
  have:=items_ok.1 h j hj
  rw [okItm,show l.getD j Itm.zero = l[j] by simp [List.getD,hj]] at this
  exact ⟨this.1,this.2.2⟩
 ·rintro ⟨hs,h⟩
  refine items_ok.2 fun i hi=>?_
  have:=h _ (getD_mem hi)
  refine ⟨this.1,fun h0=>hs (i - 1) i (by omega) hi,this.2⟩
/-! put -/
theorem doc_incr {d : Dc} (h : docE d = 0) : incrN d.items:=items_incr (docE_items h)
theorem last_pos {l : List Itm} (h : itemsE l = 0) : 1 ≤ lastN l:=by
 unfold lastN
 split
 ·omega
 ·have:=((items_iff.1 h).2 _ (getD_mem (l:=l) (i:=l.length - 1) (by omega))).1
  simp only [numsB,Bool.and_eq_true,decide_eq_true_eq] at this
  omega
theorem trail_parts {d : Dc} (h : trailE d = 0) : chk d.trailer 1 = 0 ∧ d.trailer.kind = 7 ∧ trailOk d.trailer.keys ∧ (getO d.trailer rootK).kind = 8 ∧ (followO d (getO d.trailer rootK)).kind = 7:=by
 unfold trailE at h
 repeat' split at h
 all_goals first | omega | simp_all
/-! paths -/
/-! differences -/
end Aw

namespace Aw
open Go Go.RowKit Go.WideShapes Go.ChangeShapes
def Itm.tot (i : Itm) : Nat:=i.obj.tot + 3
def itots (l : List Itm) : Nat:=(l.map Itm.tot).sum
def Dc.tot (d : Dc) : Nat:=itots d.items + d.trailer.tot
def Itm.wf (i : Itm) : Prop:=inI64 i.num ∧ inI64 i.gen ∧ i.obj.wf
def Dc.wf (d : Dc) : Prop:=(∀ i ∈ d.items,i.wf) ∧ d.trailer.wf
theorem ibulk_tot (l : List Itm) : ibulk l ≤ itots l:=by
 induction l with
 | nil=>simp [ibulk,itots]
 | cons i l ih =>
  have:=Pob.bulk_tot i.obj
  simp only [ibulk,itots,List.map_cons,List.sum_cons,Itm.tot] at ih ⊢
  omega
theorem Dc.bulk_tot (d : Dc) : d.bulk ≤ d.tot:=by
 have:=ibulk_tot d.items
 have:=Pob.bulk_tot d.trailer
 simp only [Dc.bulk,Dc.tot]
 omega
theorem keys_size (ks : List (List UInt8)) : ksize ks ≤ (ks.map fun k=>k.length + 1).sum:=by
 unfold ksize
 induction ks with
 | nil=>simp
 | cons k ks ih=>simp only [List.map_cons,List.sum_cons]; omega
mutual
theorem Pob.psize_tot : ∀ o : Pob,o.psize ≤ o.tot
 | .mk _ _ _ s ks l=>by
  simp only [Pob.psize,Pob.tot]
  have:=psizes_tots l
  have:=keys_size ks
  omega
theorem psizes_tots : ∀ l : List Pob,psizes l ≤ tots l
 | []=>by simp only [psizes,tots]; omega
 | o :: l=>by
  simp only [psizes,tots]
  have:=Pob.psize_tot o
  have:=psizes_tots l
  omega
end
theorem isize_tot (l : List Itm) : isize l ≤ itots l:=by
 unfold isize itots
 induction l with
 | nil=>simp
 | cons i l ih =>
  have:=Pob.psize_tot i.obj
  simp only [List.map_cons,List.sum_cons,Itm.tot] at ih ⊢
  omega
theorem Dc.size_tot (d : Dc) : d.size ≤ d.tot:=by
 have:=isize_tot d.items
 have:=Pob.psize_tot d.trailer
 simp only [Dc.size,Dc.tot]
 omega
structure DocT (P : Program) (tO tI tL tS tKs tOs tIt tIts tD : TypeId) : Prop where
 o : ObjT P tO tI tL tS tKs tOs
 it : ∃ fs,P.underlying tIt = some (.struct fs) ∧ fs.toList.map (fun f=>(f.offset,f.type)) = [(0,tI),(1,tI),(2,tO)]
 its : P.underlying tIts = some (.slice tIt)
 d : ∃ fs,P.underlying tD = some (.struct fs) ∧ fs.toList.map (fun f=>(f.offset,f.type)) = [(0,tIts),(1,tO)]
 c : P.cellsOf tIt = 8 ∧ P.cellsOf tIts = 1 ∧ P.cellsOf tD = 7
section
variable {H : Type} {enc : TypeId × Value → H} {P : Program} {W : World} {tO tI tL tS tKs tOs tIt tIts tD : TypeId}
theorem Opn.item (T : DocT P tO tI tL tS tKs tOs tIt tIts tD) (N : Nat) : Opn enc P W N tIt Itm.cells Itm.tot Itm.wf:=by
 cases N with
 | zero=>exact Opn.zero
 | succ N =>
  obtain ⟨fs,h1,h2⟩:=T.it
  obtain ⟨c0,c1,c2,c3,c4,c5⟩:=T.o.c
  refine Opn.as (fun p : Int × Int × Pob × Unit=>Itm.mk p.1 p.2.1 p.2.2.1)
   (Opn.struct h1 h2 T.c.1 (OpnF.cons (Opn.int T.o.i) c1 (OpnF.cons (Opn.int T.o.i) c1 (OpnF.cons (Opn.obj T.o N) c0 OpnF.nil)))) ?_ ?_ ?_
  ·intro a; simp [Itm.cells,Pob.cells_eq]
  ·intro a; simp only [Itm.tot]; omega
  ·intro a ⟨ha,hb,hc,_⟩
   exact ⟨wf_i64 ha,wf_i64 hb,hc⟩
theorem Opn.items (T : DocT P tO tI tL tS tKs tOs tIt tIts tD) (N : Nat) : Opn enc P W N tIts (fun l : List Itm=>[.sl (itemsAV l)]) (fun l=>itots l + 1) (fun l=>∀ i ∈ l,i.wf):=by
 cases N with
 | zero=>exact Opn.zero
 | succ N=>exact Opn.slice T.its (by rw [T.c.1]; decide) (Opn.item T N)
theorem Opn.doc (T : DocT P tO tI tL tS tKs tOs tIt tIts tD) (N : Nat) : Opn enc P W N tD Dc.cells Dc.tot Dc.wf:=by
 cases N with
 | zero=>exact Opn.zero
 | succ N =>
  obtain ⟨fs,h1,h2⟩:=T.d
  obtain ⟨c0,c1,c2,c3,c4,c5⟩:=T.o.c
  refine Opn.as (fun p : List Itm × Pob × Unit=>Dc.mk p.1 p.2.1)
   (Opn.struct h1 h2 T.c.2.2 (OpnF.cons (Opn.items T N) T.c.2.1 (OpnF.cons (Opn.obj T.o N) c0 OpnF.nil))) ?_ ?_ ?_
  ·intro a; simp [Dc.cells,Pob.cells_eq]
  ·intro a; simp only [Dc.tot]; omega
  ·intro a ⟨ha,hb,_⟩
   exact ⟨ha,hb⟩
theorem Opn.ints (T : DocT P tO tI tL tS tKs tOs tIt tIts tD) {tIs : TypeId} (ht : P.underlying tIs = some (.slice tI)) (N : Nat) : Opn enc P W N tIs (fun l : List Int=>[.sl (intsAV l)]) (fun l=>l.length + 1) (fun l=>∀ n ∈ l,inI64 n):=by
 cases N with
 | zero=>exact Opn.zero
 | succ N =>
  refine Opn.as id (Opn.slice ht (by rw [T.o.c.2.1]; decide) (Opn.int (N:=N) T.o.i)) (fun a=>?_) (fun a=>?_) (fun a h n hn=>wf_i64 (h n hn))
  ·simp [intsAV]
  ·have : (a.map fun _=>1).sum = a.length:=by induction a with
    | nil=>rfl
    | cons x l ih=>simp only [List.map_cons,List.sum_cons,List.length_cons,ih]; omega
   simp only [id,this]; exact Nat.le_refl _
end
end Aw

namespace Go.Proofs
open Go Aw
@[go_sem] theorem ti1 : tinfo Tryz.prog 1 = some ⟨.func,1,8,some [.raw .nilFunc]⟩:=by kernel_rfl
@[go_sem] theorem ti2 : tinfo Tryz.prog 2 = some ⟨.int .i64,1,8,some [.int .i64 0]⟩:=by kernel_rfl
@[go_sem] theorem ti3 : tinfo Tryz.prog 3 = some ⟨.int .i64,1,8,some [.int .i64 0]⟩:=by kernel_rfl
@[go_sem] theorem ti4 : tinfo Tryz.prog 4 = some ⟨.bool,1,1,some [.bool false]⟩:=by kernel_rfl
@[go_sem] theorem ti5 : tinfo Tryz.prog 5 = some ⟨.int .u8,1,1,some [.int .u8 0]⟩:=by kernel_rfl
@[go_sem] theorem ti9 : tinfo Tryz.prog 9 = some ⟨.str,1,16,some [.str []]⟩:=by kernel_rfl
@[go_sem] theorem ti12 : tinfo Tryz.prog 12 = some ⟨.int .u64,1,8,some [.int .u64 0]⟩:=by kernel_rfl
@[go_sem] theorem ti13 : tinfo Tryz.prog 13 = some ⟨.struct [(0,9),(1,12)],2,24,some [.str [],.int .u64 0]⟩:=by kernel_rfl
@[go_sem high] theorem bl13 : blist Tryz.prog 13 = some [(0,1),(1,1)]:=by kernel_rfl
@[go_sem] theorem ti20 : tinfo Tryz.prog 20 = some ⟨.iface,1,16,some [.raw .nilIface]⟩:=by kernel_rfl
@[go_sem] theorem ti21 : tinfo Tryz.prog 21 = some ⟨.int .i32,1,4,some [.int .i32 0]⟩:=by kernel_rfl
@[go_sem] theorem ti22 : tinfo Tryz.prog 22 = some ⟨.slice 45,1,24,some [.raw (.slice none 0 0)]⟩:=by kernel_rfl
@[go_sem] theorem ti23 : tinfo Tryz.prog 23 = some ⟨.slice 9,1,24,some [.raw (.slice none 0 0)]⟩:=by kernel_rfl
@[go_sem] theorem ti24 : tinfo Tryz.prog 24 = some ⟨.slice 26,1,24,some [.raw (.slice none 0 0)]⟩:=by kernel_rfl
@[go_sem] theorem ti25 : tinfo Tryz.prog 25 = some ⟨.struct [(0,3),(1,2),(2,3),(3,9),(4,23),(5,24)],6,88,some [.int .i64 0,.int .i64 0,.int .i64 0,.str [],.raw (.slice none 0 0),.raw (.slice none 0 0)]⟩:=by kernel_rfl
@[go_sem high] theorem bl25 : blist Tryz.prog 25 = some [(0,1),(1,1),(2,1),(3,1),(4,1),(5,1)]:=by kernel_rfl
@[go_sem] theorem ti26 : tinfo Tryz.prog 26 = some ⟨.struct [(0,3),(1,2),(2,3),(3,9),(4,23),(5,24)],6,88,some [.int .i64 0,.int .i64 0,.int .i64 0,.str [],.raw (.slice none 0 0),.raw (.slice none 0 0)]⟩:=by kernel_rfl
@[go_sem high] theorem bl26 : blist Tryz.prog 26 = some [(0,1),(1,1),(2,1),(3,1),(4,1),(5,1)]:=by kernel_rfl
@[go_sem] theorem ti27 : tinfo Tryz.prog 27 = some ⟨.struct [(0,22),(1,26)],7,112,some [.raw (.slice none 0 0),.int .i64 0,.int .i64 0,.int .i64 0,.str [],.raw (.slice none 0 0),.raw (.slice none 0 0)]⟩:=by kernel_rfl
@[go_sem high] theorem bl27 : blist Tryz.prog 27 = some [(0,1),(1,6)]:=by kernel_rfl
@[go_sem] theorem ti28 : tinfo Tryz.prog 28 = some ⟨.struct [(0,22),(1,26)],7,112,some [.raw (.slice none 0 0),.int .i64 0,.int .i64 0,.int .i64 0,.str [],.raw (.slice none 0 0),.raw (.slice none 0 0)]⟩:=by kernel_rfl
@[go_sem high] theorem bl28 : blist Tryz.prog 28 = some [(0,1),(1,6)]:=by kernel_rfl
@[go_sem] theorem ti29 : tinfo Tryz.prog 29 = some ⟨.slice 3,1,24,some [.raw (.slice none 0 0)]⟩:=by kernel_rfl
@[go_sem] theorem ti30 : tinfo Tryz.prog 30 = some ⟨.func,1,8,some [.raw .nilFunc]⟩:=by kernel_rfl
@[go_sem] theorem ti31 : tinfo Tryz.prog 31 = some ⟨.func,1,8,some [.raw .nilFunc]⟩:=by kernel_rfl
@[go_sem] theorem ti32 : tinfo Tryz.prog 32 = some ⟨.int .i64,1,8,some [.int .i64 0]⟩:=by kernel_rfl
@[go_sem] theorem ti34 : tinfo Tryz.prog 34 = some ⟨.func,1,8,some [.raw .nilFunc]⟩:=by kernel_rfl
@[go_sem] theorem ti35 : tinfo Tryz.prog 35 = some ⟨.func,1,8,some [.raw .nilFunc]⟩:=by kernel_rfl
@[go_sem] theorem ti36 : tinfo Tryz.prog 36 = some ⟨.func,1,8,some [.raw .nilFunc]⟩:=by kernel_rfl
@[go_sem] theorem ti37 : tinfo Tryz.prog 37 = some ⟨.func,1,8,some [.raw .nilFunc]⟩:=by kernel_rfl
@[go_sem] theorem ti38 : tinfo Tryz.prog 38 = some ⟨.func,1,8,some [.raw .nilFunc]⟩:=by kernel_rfl
@[go_sem] theorem ti40 : tinfo Tryz.prog 40 = some ⟨.func,1,8,some [.raw .nilFunc]⟩:=by kernel_rfl
@[go_sem] theorem ti41 : tinfo Tryz.prog 41 = some ⟨.func,1,8,some [.raw .nilFunc]⟩:=by kernel_rfl
@[go_sem] theorem ti42 : tinfo Tryz.prog 42 = some ⟨.func,1,8,some [.raw .nilFunc]⟩:=by kernel_rfl
@[go_sem] theorem ti43 : tinfo Tryz.prog 43 = some ⟨.func,1,8,some [.raw .nilFunc]⟩:=by kernel_rfl
@[go_sem] theorem ti44 : tinfo Tryz.prog 44 = some ⟨.struct [(0,3),(1,3),(2,26)],8,104,some [.int .i64 0,.int .i64 0,.int .i64 0,.int .i64 0,.int .i64 0,.str [],.raw (.slice none 0 0),.raw (.slice none 0 0)]⟩:=by kernel_rfl
@[go_sem high] theorem bl44 : blist Tryz.prog 44 = some [(0,1),(1,1),(2,6)]:=by kernel_rfl
@[go_sem] theorem ti45 : tinfo Tryz.prog 45 = some ⟨.struct [(0,3),(1,3),(2,26)],8,104,some [.int .i64 0,.int .i64 0,.int .i64 0,.int .i64 0,.int .i64 0,.str [],.raw (.slice none 0 0),.raw (.slice none 0 0)]⟩:=by kernel_rfl
@[go_sem high] theorem bl45 : blist Tryz.prog 45 = some [(0,1),(1,1),(2,6)]:=by kernel_rfl
@[go_sem] theorem ti46 : tinfo Tryz.prog 46 = some ⟨.func,1,8,some [.raw .nilFunc]⟩:=by kernel_rfl
@[go_sem] theorem ti47 : tinfo Tryz.prog 47 = some ⟨.func,1,8,some [.raw .nilFunc]⟩:=by kernel_rfl
@[go_sem] theorem ti48 : tinfo Tryz.prog 48 = some ⟨.func,1,8,some [.raw .nilFunc]⟩:=by kernel_rfl
@[go_sem] theorem ti49 : tinfo Tryz.prog 49 = some ⟨.func,1,8,some [.raw .nilFunc]⟩:=by kernel_rfl
@[go_sem] theorem ti50 : tinfo Tryz.prog 50 = some ⟨.func,1,8,some [.raw .nilFunc]⟩:=by kernel_rfl
@[go_sem] theorem ti51 : tinfo Tryz.prog 51 = some ⟨.func,1,8,some [.raw .nilFunc]⟩:=by kernel_rfl
@[go_sem] theorem ti52 : tinfo Tryz.prog 52 = some ⟨.func,1,8,some [.raw .nilFunc]⟩:=by kernel_rfl
@[go_sem] theorem ti53 : tinfo Tryz.prog 53 = some ⟨.func,1,8,some [.raw .nilFunc]⟩:=by kernel_rfl
@[go_sem] theorem ti54 : tinfo Tryz.prog 54 = some ⟨.map 3 45,1,8,some [.raw (.map none)]⟩:=by kernel_rfl
@[go_sem] theorem ti55 : tinfo Tryz.prog 55 = some ⟨.map 3 45,1,8,some [.raw (.map none)]⟩:=by kernel_rfl
@[go_sem] theorem ti57 : tinfo Tryz.prog 57 = some ⟨.func,1,8,some [.raw .nilFunc]⟩:=by kernel_rfl
@[go_sem] theorem ti58 : tinfo Tryz.prog 58 = some ⟨.func,1,8,some [.raw .nilFunc]⟩:=by kernel_rfl
@[go_sem] theorem ti59 : tinfo Tryz.prog 59 = some ⟨.func,1,8,some [.raw .nilFunc]⟩:=by kernel_rfl
@[go_sem] theorem ti60 : tinfo Tryz.prog 60 = some ⟨.func,1,8,some [.raw .nilFunc]⟩:=by kernel_rfl
@[go_sem] theorem ti61 : tinfo Tryz.prog 61 = some ⟨.func,1,8,some [.raw .nilFunc]⟩:=by kernel_rfl
@[go_sem] theorem ti63 : tinfo Tryz.prog 63 = some ⟨.func,1,8,some [.raw .nilFunc]⟩:=by kernel_rfl
@[go_sem] theorem ti64 : tinfo Tryz.prog 64 = some ⟨.func,1,8,some [.raw .nilFunc]⟩:=by kernel_rfl
@[go_sem] theorem ti65 : tinfo Tryz.prog 65 = some ⟨.func,1,8,some [.raw .nilFunc]⟩:=by kernel_rfl
@[go_sem] theorem ti66 : tinfo Tryz.prog 66 = some ⟨.func,1,8,some [.raw .nilFunc]⟩:=by kernel_rfl
@[go_sem] theorem ti67 : tinfo Tryz.prog 67 = some ⟨.func,1,8,some [.raw .nilFunc]⟩:=by kernel_rfl
@[go_sem] theorem ti68 : tinfo Tryz.prog 68 = some ⟨.arr 3 32,3,24,some [.int .i64 0,.int .i64 0,.int .i64 0]⟩:=by kernel_rfl
@[go_sem high] theorem bl68 : blist Tryz.prog 68 = some [(0,1),(1,1),(2,1)]:=by kernel_rfl
@[go_sem] theorem ti69 : tinfo Tryz.prog 69 = some ⟨.func,1,8,some [.raw .nilFunc]⟩:=by kernel_rfl
@[go_sem] theorem ti70 : tinfo Tryz.prog 70 = some ⟨.func,1,8,some [.raw .nilFunc]⟩:=by kernel_rfl
@[go_sem] theorem ti71 : tinfo Tryz.prog 71 = some ⟨.func,1,8,some [.raw .nilFunc]⟩:=by kernel_rfl
@[go_sem] theorem ti72 : tinfo Tryz.prog 72 = some ⟨.func,1,8,some [.raw .nilFunc]⟩:=by kernel_rfl
@[go_sem] theorem ti73 : tinfo Tryz.prog 73 = some ⟨.func,1,8,some [.raw .nilFunc]⟩:=by kernel_rfl
@[go_sem] theorem ti74 : tinfo Tryz.prog 74 = some ⟨.func,1,8,some [.raw .nilFunc]⟩:=by kernel_rfl
@[go_sem] theorem ti75 : tinfo Tryz.prog 75 = some ⟨.map 3 4,1,8,some [.raw (.map none)]⟩:=by kernel_rfl
@[go_sem] theorem ti76 : tinfo Tryz.prog 76 = some ⟨.func,1,8,some [.raw .nilFunc]⟩:=by kernel_rfl
@[go_sem] theorem ti77 : tinfo Tryz.prog 77 = some ⟨.func,1,8,some [.raw .nilFunc]⟩:=by kernel_rfl
@[go_sem] theorem ti78 : tinfo Tryz.prog 78 = some ⟨.func,1,8,some [.raw .nilFunc]⟩:=by kernel_rfl
@[go_sem] theorem ti79 : tinfo Tryz.prog 79 = some ⟨.func,1,8,some [.raw .nilFunc]⟩:=by kernel_rfl
@[go_sem] theorem ti80 : tinfo Tryz.prog 80 = some ⟨.func,1,8,some [.raw .nilFunc]⟩:=by kernel_rfl
@[go_sem] theorem ti81 : tinfo Tryz.prog 81 = some ⟨.func,1,8,some [.raw .nilFunc]⟩:=by kernel_rfl
@[go_sem] theorem ti82 : tinfo Tryz.prog 82 = some ⟨.func,1,8,some [.raw .nilFunc]⟩:=by kernel_rfl
@[go_sem] theorem ti83 : tinfo Tryz.prog 83 = some ⟨.func,1,8,some [.raw .nilFunc]⟩:=by kernel_rfl
@[go_sem] theorem ti84 : tinfo Tryz.prog 84 = some ⟨.func,1,8,some [.raw .nilFunc]⟩:=by kernel_rfl
@[go_sem] theorem ti85 : tinfo Tryz.prog 85 = some ⟨.func,1,8,some [.raw .nilFunc]⟩:=by kernel_rfl
@[go_sem] theorem ti86 : tinfo Tryz.prog 86 = some ⟨.ptr 88,1,8,some [.raw (.pointer none)]⟩:=by kernel_rfl
@[go_sem] theorem ti87 : tinfo Tryz.prog 87 = some ⟨.struct [(0,28),(7,75),(8,29)],9,144,some [.raw (.slice none 0 0),.int .i64 0,.int .i64 0,.int .i64 0,.str [],.raw (.slice none 0 0),.raw (.slice none 0 0),.raw (.map none),.raw (.slice none 0 0)]⟩:=by kernel_rfl
@[go_sem high] theorem bl87 : blist Tryz.prog 87 = some [(0,7),(7,1),(8,1)]:=by kernel_rfl
@[go_sem] theorem ti88 : tinfo Tryz.prog 88 = some ⟨.struct [(0,28),(7,75),(8,29)],9,144,some [.raw (.slice none 0 0),.int .i64 0,.int .i64 0,.int .i64 0,.str [],.raw (.slice none 0 0),.raw (.slice none 0 0),.raw (.map none),.raw (.slice none 0 0)]⟩:=by kernel_rfl
@[go_sem high] theorem bl88 : blist Tryz.prog 88 = some [(0,7),(7,1),(8,1)]:=by kernel_rfl
@[go_sem] theorem ti89 : tinfo Tryz.prog 89 = some ⟨.func,1,8,some [.raw .nilFunc]⟩:=by kernel_rfl
@[go_sem] theorem ti90 : tinfo Tryz.prog 90 = some ⟨.func,1,8,some [.raw .nilFunc]⟩:=by kernel_rfl
@[go_sem] theorem ti91 : tinfo Tryz.prog 91 = some ⟨.func,1,8,some [.raw .nilFunc]⟩:=by kernel_rfl
@[go_sem] theorem ti92 : tinfo Tryz.prog 92 = some ⟨.func,1,8,some [.raw .nilFunc]⟩:=by kernel_rfl
@[go_sem] theorem ti93 : tinfo Tryz.prog 93 = some ⟨.func,1,8,some [.raw .nilFunc]⟩:=by kernel_rfl
@[go_sem] theorem ti94 : tinfo Tryz.prog 94 = some ⟨.func,1,8,some [.raw .nilFunc]⟩:=by kernel_rfl
@[go_sem] theorem ti95 : tinfo Tryz.prog 95 = some ⟨.func,1,8,some [.raw .nilFunc]⟩:=by kernel_rfl
@[go_sem] theorem ti97 : tinfo Tryz.prog 97 = some ⟨.func,1,8,some [.raw .nilFunc]⟩:=by kernel_rfl
@[go_sem] theorem ti98 : tinfo Tryz.prog 98 = some ⟨.func,1,8,some [.raw .nilFunc]⟩:=by kernel_rfl
@[go_sem] theorem ti99 : tinfo Tryz.prog 99 = some ⟨.func,1,8,some [.raw .nilFunc]⟩:=by kernel_rfl
@[go_sem] theorem ti100 : tinfo Tryz.prog 100 = some ⟨.func,1,8,some [.raw .nilFunc]⟩:=by kernel_rfl
@[go_sem] theorem ti101 : tinfo Tryz.prog 101 = some ⟨.func,1,8,some [.raw .nilFunc]⟩:=by kernel_rfl
@[go_sem] theorem ti102 : tinfo Tryz.prog 102 = some ⟨.func,1,8,some [.raw .nilFunc]⟩:=by kernel_rfl
@[go_sem] theorem ti103 : tinfo Tryz.prog 103 = some ⟨.func,1,8,some [.raw .nilFunc]⟩:=by kernel_rfl
@[go_sem] theorem ti104 : tinfo Tryz.prog 104 = some ⟨.int .u64,1,8,some [.int .u64 0]⟩:=by kernel_rfl
@[go_sem] theorem ti105 : tinfo Tryz.prog 105 = some ⟨.func,1,8,some [.raw .nilFunc]⟩:=by kernel_rfl
@[go_sem] theorem ti106 : tinfo Tryz.prog 106 = some ⟨.struct [(0,32)],1,8,some [.int .i64 0]⟩:=by kernel_rfl
@[go_sem high] theorem bl106 : blist Tryz.prog 106 = some [(0,1)]:=by kernel_rfl
@[go_sem] theorem ti107 : tinfo Tryz.prog 107 = some ⟨.struct [(0,32)],1,8,some [.int .i64 0]⟩:=by kernel_rfl
@[go_sem high] theorem bl107 : blist Tryz.prog 107 = some [(0,1)]:=by kernel_rfl
@[go_sem] theorem ti108 : tinfo Tryz.prog 108 = some ⟨.func,1,8,some [.raw .nilFunc]⟩:=by kernel_rfl
@[go_sem] theorem ti109 : tinfo Tryz.prog 109 = some ⟨.struct [(0,4),(1,4),(2,4),(3,4),(4,4)],5,5,some [.bool false,.bool false,.bool false,.bool false,.bool false]⟩:=by kernel_rfl
@[go_sem high] theorem bl109 : blist Tryz.prog 109 = some [(0,1),(1,1),(2,1),(3,1),(4,1)]:=by kernel_rfl
@[go_sem] theorem ti110 : tinfo Tryz.prog 110 = some ⟨.struct [(0,4),(1,4),(2,4),(3,4),(4,4)],5,5,some [.bool false,.bool false,.bool false,.bool false,.bool false]⟩:=by kernel_rfl
@[go_sem high] theorem bl110 : blist Tryz.prog 110 = some [(0,1),(1,1),(2,1),(3,1),(4,1)]:=by kernel_rfl
@[go_sem] theorem ti112 : tinfo Tryz.prog 112 = some ⟨.func,1,8,some [.raw .nilFunc]⟩:=by kernel_rfl
@[go_sem] theorem ti113 : tinfo Tryz.prog 113 = some ⟨.func,1,8,some [.raw .nilFunc]⟩:=by kernel_rfl
@[go_sem] theorem ti114 : tinfo Tryz.prog 114 = some ⟨.func,1,8,some [.raw .nilFunc]⟩:=by kernel_rfl
@[go_sem] theorem ti115 : tinfo Tryz.prog 115 = some ⟨.func,1,8,some [.raw .nilFunc]⟩:=by kernel_rfl
@[go_sem] theorem ti116 : tinfo Tryz.prog 116 = some ⟨.func,1,8,some [.raw .nilFunc]⟩:=by kernel_rfl
@[go_sem] theorem ti117 : tinfo Tryz.prog 117 = some ⟨.func,1,8,some [.raw .nilFunc]⟩:=by kernel_rfl
@[go_sem] theorem ti118 : tinfo Tryz.prog 118 = some ⟨.int .i64,1,8,some [.int .i64 0]⟩:=by kernel_rfl
@[go_sem] theorem ti120 : tinfo Tryz.prog 120 = some ⟨.func,1,8,some [.raw .nilFunc]⟩:=by kernel_rfl
@[go_sem] theorem ti121 : tinfo Tryz.prog 121 = some ⟨.func,1,8,some [.raw .nilFunc]⟩:=by kernel_rfl
@[go_sem] theorem ti122 : tinfo Tryz.prog 122 = some ⟨.func,1,8,some [.raw .nilFunc]⟩:=by kernel_rfl
@[go_sem] theorem ti123 : tinfo Tryz.prog 123 = some ⟨.func,1,8,some [.raw .nilFunc]⟩:=by kernel_rfl
@[go_sem] theorem ti124 : tinfo Tryz.prog 124 = some ⟨.func,1,8,some [.raw .nilFunc]⟩:=by kernel_rfl
@[go_sem] theorem ti125 : tinfo Tryz.prog 125 = some ⟨.int .u32,1,4,some [.int .u32 0]⟩:=by kernel_rfl
@[go_sem] theorem ti126 : tinfo Tryz.prog 126 = some ⟨.func,1,8,some [.raw .nilFunc]⟩:=by kernel_rfl
@[go_sem] theorem ti127 : tinfo Tryz.prog 127 = some ⟨.int .u64,1,8,some [.int .u64 0]⟩:=by kernel_rfl
@[go_sem] theorem ti128 : tinfo Tryz.prog 128 = some ⟨.map 3 45,1,8,some [.raw (.map none)]⟩:=by kernel_rfl
@[go_sem] theorem ti130 : tinfo Tryz.prog 130 = some ⟨.func,1,8,some [.raw .nilFunc]⟩:=by kernel_rfl
@[go_sem] theorem ti131 : tinfo Tryz.prog 131 = some ⟨.func,1,8,some [.raw .nilFunc]⟩:=by kernel_rfl
@[go_sem] theorem ti132 : tinfo Tryz.prog 132 = some ⟨.func,1,8,some [.raw .nilFunc]⟩:=by kernel_rfl
@[go_sem] theorem ti133 : tinfo Tryz.prog 133 = some ⟨.func,1,8,some [.raw .nilFunc]⟩:=by kernel_rfl
@[go_sem] theorem ti134 : tinfo Tryz.prog 134 = some ⟨.func,1,8,some [.raw .nilFunc]⟩:=by kernel_rfl
@[go_sem] theorem ti135 : tinfo Tryz.prog 135 = some ⟨.func,1,8,some [.raw .nilFunc]⟩:=by kernel_rfl
@[go_sem] theorem ti136 : tinfo Tryz.prog 136 = some ⟨.func,1,8,some [.raw .nilFunc]⟩:=by kernel_rfl
@[go_sem] theorem ti137 : tinfo Tryz.prog 137 = some ⟨.int .u64,1,8,some [.int .u64 0]⟩:=by kernel_rfl
@[go_sem] theorem ti138 : tinfo Tryz.prog 138 = some ⟨.func,1,8,some [.raw .nilFunc]⟩:=by kernel_rfl
@[go_sem] theorem ti139 : tinfo Tryz.prog 139 = some ⟨.func,1,8,some [.raw .nilFunc]⟩:=by kernel_rfl
@[go_sem] theorem ti140 : tinfo Tryz.prog 140 = some ⟨.func,1,8,some [.raw .nilFunc]⟩:=by kernel_rfl
@[go_sem] theorem ti141 : tinfo Tryz.prog 141 = some ⟨.ptr 3,1,8,some [.raw (.pointer none)]⟩:=by kernel_rfl
@[go_sem] theorem ti142 : tinfo Tryz.prog 142 = some ⟨.func,1,8,some [.raw .nilFunc]⟩:=by kernel_rfl
@[go_sem] theorem ti143 : tinfo Tryz.prog 143 = some ⟨.func,1,8,some [.raw .nilFunc]⟩:=by kernel_rfl
@[go_sem] theorem ti144 : tinfo Tryz.prog 144 = some ⟨.func,1,8,some [.raw .nilFunc]⟩:=by kernel_rfl
@[go_sem] theorem ti145 : tinfo Tryz.prog 145 = some ⟨.func,1,8,some [.raw .nilFunc]⟩:=by kernel_rfl
@[go_sem] theorem ti146 : tinfo Tryz.prog 146 = some ⟨.func,1,8,some [.raw .nilFunc]⟩:=by kernel_rfl
@[go_sem] theorem ti147 : tinfo Tryz.prog 147 = some ⟨.func,1,8,some [.raw .nilFunc]⟩:=by kernel_rfl
@[go_sem] theorem ti148 : tinfo Tryz.prog 148 = some ⟨.func,1,8,some [.raw .nilFunc]⟩:=by kernel_rfl
@[go_sem] theorem ti149 : tinfo Tryz.prog 149 = some ⟨.func,1,8,some [.raw .nilFunc]⟩:=by kernel_rfl
@[go_sem] theorem ti150 : tinfo Tryz.prog 150 = some ⟨.func,1,8,some [.raw .nilFunc]⟩:=by kernel_rfl
@[go_sem] theorem ti151 : tinfo Tryz.prog 151 = some ⟨.ptr 137,1,8,some [.raw (.pointer none)]⟩:=by kernel_rfl
@[go_sem] theorem ti153 : tinfo Tryz.prog 153 = some ⟨.func,1,8,some [.raw .nilFunc]⟩:=by kernel_rfl
@[go_sem] theorem ti154 : tinfo Tryz.prog 154 = some ⟨.func,1,8,some [.raw .nilFunc]⟩:=by kernel_rfl
@[go_sem] theorem ti155 : tinfo Tryz.prog 155 = some ⟨.func,1,8,some [.raw .nilFunc]⟩:=by kernel_rfl
@[go_sem] theorem ti156 : tinfo Tryz.prog 156 = some ⟨.func,1,8,some [.raw .nilFunc]⟩:=by kernel_rfl
@[go_sem] theorem ti157 : tinfo Tryz.prog 157 = some ⟨.func,1,8,some [.raw .nilFunc]⟩:=by kernel_rfl
@[go_sem] theorem ti158 : tinfo Tryz.prog 158 = some ⟨.func,1,8,some [.raw .nilFunc]⟩:=by kernel_rfl
@[go_sem] theorem ti159 : tinfo Tryz.prog 159 = some ⟨.func,1,8,some [.raw .nilFunc]⟩:=by kernel_rfl
@[go_sem] theorem ti160 : tinfo Tryz.prog 160 = some ⟨.func,1,8,some [.raw .nilFunc]⟩:=by kernel_rfl
@[go_sem] theorem ti161 : tinfo Tryz.prog 161 = some ⟨.func,1,8,some [.raw .nilFunc]⟩:=by kernel_rfl
@[go_sem] theorem ti162 : tinfo Tryz.prog 162 = some ⟨.func,1,8,some [.raw .nilFunc]⟩:=by kernel_rfl
@[go_sem] theorem ti163 : tinfo Tryz.prog 163 = some ⟨.func,1,8,some [.raw .nilFunc]⟩:=by kernel_rfl
@[go_sem] theorem ti164 : tinfo Tryz.prog 164 = some ⟨.func,1,8,some [.raw .nilFunc]⟩:=by kernel_rfl
@[go_sem] theorem ti165 : tinfo Tryz.prog 165 = some ⟨.func,1,8,some [.raw .nilFunc]⟩:=by kernel_rfl
@[go_sem] theorem ti166 : tinfo Tryz.prog 166 = some ⟨.func,1,8,some [.raw .nilFunc]⟩:=by kernel_rfl
@[go_sem] theorem ti167 : tinfo Tryz.prog 167 = some ⟨.func,1,8,some [.raw .nilFunc]⟩:=by kernel_rfl
@[go_sem] theorem ti168 : tinfo Tryz.prog 168 = some ⟨.func,1,8,some [.raw .nilFunc]⟩:=by kernel_rfl
@[go_sem] theorem ti174 : tinfo Tryz.prog 174 = some ⟨.func,1,8,some [.raw .nilFunc]⟩:=by kernel_rfl
@[go_sem] theorem ti178 : tinfo Tryz.prog 178 = some ⟨.ptr 5,1,8,some [.raw (.pointer none)]⟩:=by kernel_rfl
end Go.Proofs
