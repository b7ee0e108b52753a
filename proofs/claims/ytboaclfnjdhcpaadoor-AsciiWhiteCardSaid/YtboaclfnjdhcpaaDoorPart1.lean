/- A part of the proof: no condition of its own. -/
import Derived.Test.YtboaclfnjdhcpaaDoorCore47
import Derived.ProofKit
import Derived.Below
import Derived.ChangeSame
import Derived.HandedShaped
import Derived.OpenShut
import Derived.Shelf.Small.Strs
import Derived.Shelf.Strings.Search1
import Derived.Shelf.Strings.Builder1
import Derived.Shelf.Strings.Repeat
import Derived.Test.YtboaclfnjdhcpaaDoorProg
import Derived.IntWalk
import Derived.Lib.Repeat
namespace Aw
open Go Go.RowKit Go.WideShapes Go.ChangeShapes
theorem FnP.below {P : Program} {gl : List (Nat × AV)} {f : FuncId} {xs : List AV} (h : FnP P gl f xs fun r=>r = .ret (.bool true)) {m : Mem} {vs : List Value} {W : World} (hw : m.w = W)
  (hm : Start m gl) (hP : m.Pr = fun b=>b < W.heap.size) (hv : RepL m 1 xs vs) : Calls P f vs.toArray W fun e W'=>e = .returned (.bool true) ∧ Below W.heap.size W W':=by
 subst hw
 refine (h.calls m vs hm hv).mono ?_
 rintro e w' ⟨m',r,rfl,hle,_,hend,rfl⟩
 obtain ⟨v,rfl,hv⟩:=hend
 simp only [Rep] at hv
 subst hv
 exact ⟨rfl,hle.os,hle.tape,hle.output,hle.size,fun b hb=>hle.block b (by rw [hP]; exact hb)⟩

section
variable {H : Type} {enc : TypeId × Value → H} {P : Program}
theorem trodAll_stays (hl : laidOutB P = true) {W W' : World} {sp' : Nat → Bool} : ∀ {ts : List TypeId} {vs : List Value} {ds : List (DataW H)} {ps : List MemPlace},
  ts.all (fun t=>P.readableRec t && decide (t < P.types.size)) = true → DataW.TrodAll enc P W 0 (fun _=>true) true ts vs ds ps → (∀ p ∈ ps,W.sameAt W' p) → (∀ p ∈ ps,sp' p.block = true) →
  DataW.TrodAll enc P W' 0 sp' true ts vs ds ps
 | [],vs,ds,ps,_,h,_,_=>by
  obtain ⟨rfl,rfl,rfl⟩:=trodAll_nil h
  exact trodAll_mk0
 | t :: ts,vs,ds,ps,hr,h,h1,h2=>by
  obtain ⟨v,vs,d,ds,p,q,rfl,rfl,rfl,hv,hr'⟩:=trodAll_cons h
  simp only [List.all_cons,Bool.and_eq_true,decide_eq_true_eq] at hr
  exact trodAll_cons_mk (WideElems.Trod_stays hl hr.1.1 hr.1.2 hv (fun x hx=>h1 x (by simp [hx])) (fun x hx=>h2 x (by simp [hx])))
   (trodAll_stays hl (by simpa using hr.2) hr' (fun x hx=>h1 x (by simp [hx])) (fun x hx=>h2 x (by simp [hx])))

theorem law_post {f : Func} {s : ChangeSpec} {fresh handsOn again : Bool} {W W' : World} {args : Array Value} {ds gs : List (DataW H)} {before : List MemPlace} {tb : TypeId} (hl : laidOutB P = true)
  (hrt : f.resultTypes = #[tb]) (htb : P.underlying tb = some .bool) (hps : f.params.toList.all (fun t=>P.readableRec t && decide (t < P.types.size)) = true) (hvar : s.vars = [])
  (hs : s.fn H (ds ++ gs) = { results:=[.lit (.bool true)],args:=ds }) (hW : DataW.Whole enc P f.params.toList s.vars false W args.toList ds gs before) (hb : Below W.heap.size W W') :
  s.post enc P f false fresh handsOn again W args (.bool true) W':=by
 have hlt : ∀ p ∈ before,p.block < W.heap.size:=fun p hp=>hW.lt p hp
 have hold : ∀ p ∈ before,(fun b=>decide (b < W.heap.size)) p.block = true:=fun p hp=>by simpa using hlt p hp
 have hres : ∀ (b : Nat) (sp : Nat → Bool) (hd : Bool),DataW.TrodAll enc P W' b sp hd f.resultTypes.toList ((Value.bool true).resultList f.resultTypes.size) (s.fn H (ds ++ gs)).results []:=by
  intro b sp hd
  rw [hrt,hs]
  exact trodAll_mk1 ⟨1,by simp [DataW.trod,Value.cells,htb]⟩
 obtain ⟨p,q,hA,hV,e,hz,hn⟩:=hW
 rw [hvar] at hV
 obtain ⟨rfl,rfl⟩:=trodVars_none hV
 rw [List.append_nil] at e
 subst e
 have hargs : ∀ sp : Nat → Bool,(∀ x ∈ before,sp x.block = true) → DataW.TrodAll enc P W' 0 sp true f.params.toList args.toList (s.fn H (ds ++ [])).args before:=by
  intro sp hsp
  rw [hs]
  exact trodAll_stays hl hps hA (fun x hx=>hb.same (hlt x hx)) hsp
 have hvars : ∀ sp : Nat → Bool,DataW.TrodVars enc P W' sp s.vars (s.fn H (ds ++ [])).vars []:=by
  intro sp
  rw [hs,hvar]
  rfl
 have hW0 : DataW.Whole enc P f.params.toList s.vars false W args.toList ds [] before:=⟨before,[],hA,by rw [hvar]; rfl,by simp,hz,hn⟩
 refine ⟨ds,[],before,[],before,[],hW0,hres _ _ _,hargs _ hold,hvars _,World.keptBut_mono (fun p hp=>⟨hp,Or.inr (Or.inl hp)⟩) (hb.frame (· ∈ before)),fun _=>?_⟩
 refine ⟨?_,_,_,([] ++ before) ++ [],⟨[] ++ before,[],trodAll_append (hargs _ (fun _ _=>rfl)) (hres _ _ _),hvars _,rfl,?_,?_⟩,?_⟩
 ·exact ok_one hrt rfl (okWide_bool_mk htb _)
 ·intro b off hp
  have hin : MemPlace.cell b off ∈ before:=by simpa using hp
  rw [hb.frozen (hlt _ hin)]
  exact hz b off hin
 ·intro ha
  cases ha
 ·intro p hp _
  simpa using hp
end
theorem rep_str {m : Mem} {k : Nat} (s : ByteArray) : Rep m k (.str s.data.toList) (.string s):=by simp only [Rep]
theorem rep_int {m : Mem} {k : Nat} {ki : IntKind} (n : Int) : Rep m k (.int ki n) (.int ki n):=by simp only [Rep]
theorem rep_bool {m : Mem} {k : Nat} (b : Bool) : Rep m k (.bool b) (.bool b):=by simp only [Rep]
theorem repl_nil {m : Mem} {k : Nat} : RepL m k [] []:=by simp only [RepL]
theorem repl_cons {m : Mem} {k : Nat} {x : AV} {v : Value} {xs : List AV} {vs : List Value} (h : Rep m k x v) (hs : RepL m k xs vs) : RepL m k (x :: xs) (v :: vs):=by
 simp only [RepL]
 exact ⟨v,vs,rfl,h,hs⟩
theorem wf_i64 {n : Int} (h : (Lit.int .i64 n).wf = true) : -9223372036854775808 ≤ n ∧ n ≤ 9223372036854775807:=by
 simpa [Lit.wf,IntKind.min,IntKind.max,IntKind.bits,IntKind.signed] using h
end Aw

namespace Aw
open Go Go.RowKit Go.WideShapes Go.ChangeShapes
mutual
def dbulk {H : Type} : DataW H → Nat
 | .lit (.string bytes)=>bytes.length + 1
 | .lit _=>1
 | .nil=>1
 | .ptr d=>dbulk d + 1
 | .slice elems spare=>dbulks elems + dbulks spare + 1
 | .agg parts=>dbulks parts + 1
 | .iface _ d=>dbulk d + 1
 | .map _=>1
 | .held _=>1
def dbulks {H : Type} : List (DataW H) → Nat
 | []=>0
 | d :: r=>dbulk d + dbulks r
end
def gmA (W : World) : Mem:={ w:=W,F:=fun b _=>b < W.heap.size,Pr:=fun b=>b < W.heap.size,ρ:=fun _=>none,np:=0 }
theorem cell_lt {W : World} {a : Addr} {v : Value} (h : W.cell? a = some v) : a.block < W.heap.size:=by
 rcases Nat.lt_or_ge a.block W.heap.size with hlt | hge
 ·exact hlt
 ·have : W.heap[a.block]? = none:=by rw [Array.getElem?_eq_none]; exact hge
  simp [World.cell?,this] at h
theorem cell_spot {W : World} {a : Addr} {v : Value} (h : W.cell? a = some v) : a = ⟨a.block,a.off,none⟩:=by
 obtain ⟨b,o,s⟩:=a
 cases s with
 | none=>rfl
 | some s =>
  simp only [World.cell?,Option.isSome_some,if_true] at h
  split at h <;> cases h
theorem addr_add_ok {W : World} {a : Addr} {n : Nat} {v : Value} (h : W.cell? (a.add n) = some v) : a.add n = ⟨a.block,a.off + n,none⟩:=by
 unfold Addr.add at *
 split
 ·rename_i e
  subst e
  rw [if_pos rfl] at h
  exact cell_spot h
 ·rfl
theorem RepC.of_cells {W : World} {b : Nat} : ∀ {xs : List AV} {l : List Value} {o : Nat},RepL (gmA W) 2 xs l → (∀ j,j < l.length → W.cell? ⟨b,o + j,none⟩ = l[j]?) → RepC (gmA W) xs b o
 | [],_,_,_,_=>by simp only [RepC]
 | x :: xs,l,o,h,hc=>by
  simp only [RepL] at h
  obtain ⟨v,rest,rfl,hv,hr⟩:=h
  have h0:=hc 0 (by simp)
  simp only [Nat.add_zero,List.getElem?_cons_zero] at h0
  simp only [RepC]
  refine ⟨cell_lt h0,⟨v,h0,hv⟩,RepC.of_cells hr fun j hj=>?_⟩
  have:=hc (j + 1) (by simpa using hj)
  rw [show o + 1 + j = o + (j + 1) from by omega,this]
  rfl
section
variable {H : Type} (enc : TypeId × Value → H) (P : Program) (W : World)
def Opn {α : Type} (N : Nat) (t : TypeId) (cells : α → List AV) (size : α → Nat) (wf : α → Prop) : Prop :=
 ∀ (fuel : Nat) (cs : List Value) (x : DataW H × List MemPlace),fuel ≤ N → DataW.trod enc P W 0 (fun _=>true) true fuel t cs = some x → ∃ a : α,RepL (gmA W) 2 (cells a) cs ∧ size a ≤ dbulk x.1 ∧ wf a
def OpnF {α : Type} (N : Nat) (fs : List (Nat × TypeId)) (o e : Nat) (cells : α → List AV) (size : α → Nat) (wf : α → Prop) : Prop :=
 ∀ (fuel : Nat) (cs : List Value) (xs : List (DataW H × List MemPlace)),fuel ≤ N → xs.length = fs.length → cs.length = e →
  (∀ (i : Nat) (f : Nat × TypeId),fs[i]? = some f → DataW.trod enc P W 0 (fun _=>true) true fuel f.2 ((cs.drop f.1).take (P.cellsOf f.2)) = xs[i]?) → ∃ a : α,RepL (gmA W) 2 (cells a) (cs.drop o) ∧ size a ≤ dbulks (xs.map (·.1)) ∧ wf a
end
section
variable {H : Type} {enc : TypeId × Value → H} {P : Program} {W : World} {N : Nat} {t e : TypeId}
theorem Opn.mono {α : Type} {cells : α → List AV} {size : α → Nat} {wf : α → Prop} {N' : Nat} (h : Opn enc P W N t cells size wf) (hN : N' ≤ N) : Opn enc P W N' t cells size wf :=
 fun fuel cs x hf hx=>h fuel cs x (by omega) hx
theorem Opn.as {α β : Type} {cells : α → List AV} {size : α → Nat} {wf : α → Prop} (f : α → β) {cells' : β → List AV} {size' : β → Nat} {wf' : β → Prop} (h : Opn enc P W N t cells size wf)
  (hc : ∀ a,cells' (f a) = cells a) (hs : ∀ a,size' (f a) ≤ size a) (hw : ∀ a,wf a → wf' (f a)) : Opn enc P W N t cells' size' wf':=by
 intro fuel cs x hf hx
 obtain ⟨a,h1,h2,h3⟩:=h fuel cs x hf hx
 exact ⟨f a,by rw [hc]; exact h1,Nat.le_trans (hs a) h2,hw a h3⟩
theorem Opn.int {k : IntKind} (ht : P.underlying t = some (.int k)) : Opn enc P W N t (fun n : Int=>[.int k n]) (fun _=>1) (fun n=>(Lit.int k n).wf = true):=by
 intro fuel cs x _ hx
 obtain ⟨n,rfl,rfl,hw⟩:=DataW.trod_int ht hx
 exact ⟨n,repl_cons (rep_int n) repl_nil,by simp [dbulk],hw⟩
theorem Opn.bool (ht : P.underlying t = some .bool) : Opn enc P W N t (fun b : Bool=>[.bool b]) (fun _=>1) (fun _=>True):=by
 intro fuel cs x _ hx
 obtain ⟨n,rfl,rfl⟩:=DataW.trod_bool ht hx
 exact ⟨n,repl_cons (rep_bool n) repl_nil,by simp [dbulk],trivial⟩
theorem Opn.str (ht : P.underlying t = some .string) : Opn enc P W N t (fun s : List UInt8=>[.str s]) (fun s=>s.length + 1) (fun _=>True):=by
 intro fuel cs x _ hx
 obtain ⟨s,rfl,rfl,_⟩:=DataW.trod_string ht hx
 exact ⟨s.data.toList,repl_cons (rep_str s) repl_nil,by simp [dbulk],trivial⟩
theorem cells_of {a : Addr} {n : Nat} {l : List Value} (h : W.cells? 0 a n = some l) : l.length = n ∧ ∀ j,j < n → W.cell? (a.add j) = l[j]?:=by
 simp only [World.cells?,Nat.zero_le,if_true] at h
 exact ⟨by simpa using mapM_some_length h,fun j hj=>mapM_some_get h j j (by simp [hj])⟩
theorem Opn.slice {α : Type} {cells : α → List AV} {size : α → Nat} {wf : α → Prop} (ht : P.underlying t = some (.slice e)) (hc : 0 < P.cellsOf e) (he : Opn enc P W N e cells size wf) :
  Opn enc P W (N + 1) t (fun l : List α=>[.sl (l.map cells)]) (fun l=>(l.map size).sum + 1) (fun l=>∀ a ∈ l,wf a):=by
 intro fuel cs x hf hx
 rcases DataW.trod_slice ht hx with ⟨rfl,rfl⟩ | ⟨a,len,cap,elems,rest,n,rfl,rfl,rfl,_,hle,_,hlen,hel,_,_⟩
 ·exact ⟨[],repl_cons (by simp only [Rep,List.map_nil]; exact .inl ⟨trivial,_,_,rfl⟩) repl_nil,by simp [dbulk],by simp⟩
 ·have key : ∀ (es : List (DataW H × List MemPlace)) (o : Nat),(∀ i,i < es.length → (W.cells? 0 (a.add ((o + i) * P.cellsOf e)) (P.cellsOf e)).bind (DataW.trod enc P W 0 (fun _=>true) true n e) = es[i]?) →
    ∃ l : List α,l.length = es.length ∧ RepE (gmA W) (l.map cells) a.block (a.off + o * P.cellsOf e) (P.cellsOf e) ∧ (l.map size).sum ≤ dbulks (es.map (·.1)) ∧ ∀ b ∈ l,wf b:=by
   intro es
   induction es with
   | nil=>intro o _; exact ⟨[],rfl,by simp only [List.map_nil,RepE],by simp,by simp⟩
   | cons y es ih =>
    intro o hy
    obtain ⟨l,hl,hr,hs,hw⟩:=ih (o + 1) (fun i hi=>by
     have:=hy (i + 1) (by simpa using hi)
     rw [show o + 1 + i = o + (i + 1) from by omega,this]; rfl)
    have h0:=hy 0 (by simp)
    simp only [Nat.add_zero,List.getElem?_cons_zero,Option.bind_eq_some_iff] at h0
    obtain ⟨vs,hv,hy0⟩:=h0
    obtain ⟨b,hb1,hb2,hb3⟩:=he n vs y (by omega) hy0
    obtain ⟨hvl,hvc⟩:=cells_of hv
    have hbl:=RepL.length hb1
    refine ⟨b :: l,by simp [hl],?_,?_,?_⟩
    ·simp only [List.map_cons,RepE]
     have h1 : ∀ j,j < P.cellsOf e → W.cell? ⟨a.block,a.off + o * P.cellsOf e + j,none⟩ = vs[j]?:=by
      intro j hj
      have h2:=hvc j hj
      rw [← h2]
      have hj' : j < vs.length:=by omega
      rw [List.getElem?_eq_getElem hj'] at h2
      have h3 : W.cell? (a.add (o * P.cellsOf e)) = vs[0]?:=by
       have:=hvc 0 hc
       simpa [Addr.add] using this
      rw [List.getElem?_eq_getElem (by omega)] at h3
      have h4:=addr_add_ok h3
      have h5:=addr_add_ok h2
      rw [h5,h4]
     refine ⟨by omega,RepC.of_cells hb1 (fun j hj=>h1 j (by omega)),?_⟩
     have : a.off + (o + 1) * P.cellsOf e = a.off + o * P.cellsOf e + P.cellsOf e:=by rw [Nat.succ_mul]; omega
     rw [← this]
     exact hr
    ·simp only [List.map_cons,List.sum_cons,dbulks]
     omega
    ·intro c hcm
     rcases List.mem_cons.1 hcm with rfl | hcm
     ·exact hb3
     ·exact hw c hcm
  obtain ⟨l,hl,hr,hs,hw⟩:=key elems 0 (fun i hi=>by rw [Nat.zero_add]; exact hel i (by omega))
  refine ⟨l,repl_cons ?_ repl_nil,?_,hw⟩
  ·simp only [Rep]
   by_cases h0 : len = 0
   ·left
    have : l = []:=List.length_eq_zero_iff.1 (by omega)
    subst this
    exact ⟨rfl,a,cap,by rw [h0]⟩
   ·right
    have h1:=hel 0 (by omega)
    rw [List.getElem?_eq_getElem (by omega)] at h1
    simp only [Nat.zero_mul,Option.bind_eq_some_iff] at h1
    obtain ⟨vs,hv,_⟩:=h1
    obtain ⟨hvl,hvc⟩:=cells_of hv
    have h2:=hvc 0 hc
    rw [List.getElem?_eq_getElem (by omega)] at h2
    have h3 : a.add 0 = a:=by simp [Addr.add]
    simp only [h3] at h2
    have h4:=cell_spot h2
    refine ⟨a.block,a.off,cap,P.cellsOf e,?_,by simp only [List.length_map]; omega,?_⟩
    ·rw [← h4]; simp only [List.length_map]; rw [hl,hlen]
    ·simpa using hr
  ·simp only [dbulk]
   omega
theorem OpnF.nil {o : Nat} : OpnF enc P W N [] o o (fun _ : Unit=>[]) (fun _=>0) (fun _=>True):=by
 intro fuel cs xs _ _ hl _
 exact ⟨(),by rw [List.drop_eq_nil_of_le (by omega)]; exact repl_nil,Nat.zero_le _,trivial⟩
theorem OpnF.cons {α β : Type} {ca : α → List AV} {sa : α → Nat} {wa : α → Prop} {cb : β → List AV} {sb : β → Nat} {wb : β → Prop} {o c z : Nat} {fs : List (Nat × TypeId)} (h : Opn enc P W N t ca sa wa) (hc : P.cellsOf t = c) (hr : OpnF enc P W N fs (o + c) z cb sb wb) :
  OpnF enc P W N ((o,t) :: fs) o z (fun p : α × β=>ca p.1 ++ cb p.2) (fun p=>sa p.1 + sb p.2) (fun p=>wa p.1 ∧ wb p.2):=by
 intro fuel cs xs hf hl hcl hx
 cases xs with
 | nil=>simp at hl
 | cons x xs =>
  have h0:=hx 0 (o,t) rfl
  simp only [List.getElem?_cons_zero] at h0
  obtain ⟨a,a1,a2,a3⟩:=h fuel _ x hf h0
  obtain ⟨b,b1,b2,b3⟩:=hr fuel cs xs hf (by simpa using hl) hcl (fun i f hi=>by simpa using hx (i + 1) f (by simpa using hi))
  refine ⟨(a,b),?_,by simp only [List.map_cons,dbulks]; omega,a3,b3⟩
  have:=RepL.append a1 b1
  rw [hc] at this
  have e : (cs.drop o).take c ++ cs.drop (o + c) = cs.drop o:=by rw [← List.drop_drop,List.take_append_drop]
  rwa [e] at this
theorem Opn.struct {α : Type} {fs : Array Field} {l : List (Nat × TypeId)} {z : Nat} {cells : α → List AV} {size : α → Nat} {wf : α → Prop} (ht : P.underlying t = some (.struct fs)) (hl : fs.toList.map (fun f=>(f.offset,f.type)) = l) (hz : P.cellsOf t = z) (h : OpnF enc P W N l 0 z cells size wf) :
  Opn enc P W (N + 1) t cells (fun a=>size a + 1) wf:=by
 intro fuel cs x hf hx
 obtain ⟨xs,n,rfl,rfl,hcl,hxl,hxs⟩:=DataW.trod_struct ht hx
 obtain ⟨a,a1,a2,a3⟩:=h n cs xs (by omega) (by rw [hxl,← hl]; simp) (by omega) (fun i f hi=>by
  rw [← hl,List.getElem?_map,Option.map_eq_some_iff] at hi
  obtain ⟨g,hg,rfl⟩:=hi
  exact hxs i g (by simpa using hg))
 refine ⟨a,by simpa using a1,?_,a3⟩
 simp only [dbulk]
 omega
theorem Opn.zero {α : Type} {cells : α → List AV} {size : α → Nat} {wf : α → Prop} : Opn enc P W 0 t cells size wf:=by
 intro fuel cs x hf hx
 obtain rfl : fuel = 0:=by omega
 simp [DataW.trod] at hx
end
/-! objects -/
mutual
def Pob.tot : Pob → Nat
 | .mk _ _ _ s ks l=>s.length + (ks.map fun k=>k.length + 1).sum + tots l + 7
def tots : List Pob → Nat
 | []=>0
 | o :: l=>o.tot + tots l
end
def inI64 (n : Int) : Prop:=-9223372036854775808 ≤ n ∧ n ≤ 9223372036854775807
mutual
def Pob.wf : Pob → Prop
 | .mk k n g _ _ l=>inI64 k ∧ inI64 n ∧ inI64 g ∧ wfs l
def wfs : List Pob → Prop
 | []=>True
 | o :: l=>o.wf ∧ wfs l
end
theorem tots_map (l : List Pob) : (l.map Pob.tot).sum = tots l:=by
 induction l with
 | nil=>simp [tots]
 | cons o l ih=>simp only [List.map_cons,List.sum_cons,tots,ih]
theorem wfs_of {l : List Pob} (h : ∀ o ∈ l,o.wf) : wfs l:=by
 induction l with
 | nil=>simp only [wfs]
 | cons o l ih=>simp only [wfs]; exact ⟨h o (by simp),ih fun x hx=>h x (by simp [hx])⟩
structure ObjT (P : Program) (tO tI tL tS tKs tOs : TypeId) : Prop where
 o : ∃ fs,P.underlying tO = some (.struct fs) ∧ fs.toList.map (fun f=>(f.offset,f.type)) = [(0,tI),(1,tL),(2,tI),(3,tS),(4,tKs),(5,tOs)]
 i : P.underlying tI = some (.int .i64)
 l : P.underlying tL = some (.int .i64)
 s : P.underlying tS = some .string
 ks : P.underlying tKs = some (.slice tS)
 os : P.underlying tOs = some (.slice tO)
 c : P.cellsOf tO = 6 ∧ P.cellsOf tI = 1 ∧ P.cellsOf tL = 1 ∧ P.cellsOf tS = 1 ∧ P.cellsOf tKs = 1 ∧ P.cellsOf tOs = 1
section
variable {H : Type} {enc : TypeId × Value → H} {P : Program} {W : World} {tO tI tL tS tKs tOs : TypeId}
theorem Opn.strs (T : ObjT P tO tI tL tS tKs tOs) (N : Nat) : Opn enc P W N tKs (fun l : List (List UInt8)=>[.sl (strsAV l)]) (fun l=>(l.map fun k=>k.length + 1).sum + 1) (fun _=>True):=by
 cases N with
 | zero=>exact Opn.zero
 | succ N =>
  refine Opn.as id (Opn.slice T.ks (by rw [T.c.2.2.2.1]; decide) (Opn.str (N:=N) T.s)) (fun a=>?_) (fun a=>Nat.le_refl _) (fun _ _=>trivial)
  simp [strsAV]
theorem Opn.obj (T : ObjT P tO tI tL tS tKs tOs) (N : Nat) : Opn enc P W N tO Pob.cells Pob.tot Pob.wf:=by
 induction N using Nat.strongRecOn with
 | ind N IH =>
  cases N with
  | zero=>exact Opn.zero
  | succ N =>
   have hos : Opn enc P W N tOs (fun l : List Pob=>[.sl (objsAV l)]) (fun l=>tots l + 1) wfs:=by
    cases N with
    | zero=>exact Opn.zero
    | succ N =>
     refine Opn.as id (Opn.slice T.os (by rw [T.c.1]; decide) (IH N (by omega))) (fun a=>?_) (fun a=>?_) (fun a h=>wfs_of h)
     ·simp [objsAV_map]
     ·rw [tots_map]; exact Nat.le_refl _
   obtain ⟨fs,h1,h2⟩:=T.o
   obtain ⟨c0,c1,c2,c3,c4,c5⟩:=T.c
   refine Opn.as (fun p : Int × Int × Int × List UInt8 × List (List UInt8) × List Pob × Unit=>Pob.mk p.1 p.2.1 p.2.2.1 p.2.2.2.1 p.2.2.2.2.1 p.2.2.2.2.2.1)
    (Opn.struct h1 h2 c0 (OpnF.cons (Opn.int T.i) c1 (OpnF.cons (Opn.int T.l) c2 (OpnF.cons (Opn.int T.i) c1 (OpnF.cons (Opn.str T.s) c3 (OpnF.cons (Opn.strs T N) c4 (OpnF.cons hos c5 OpnF.nil))))))) ?_ ?_ ?_
   ·intro a; simp [Pob.cells]
   ·intro a; simp only [Pob.tot]; omega
   ·intro a ⟨ha,hb,hc,_,_,hl,_⟩
    simp only [Pob.wf]
    exact ⟨wf_i64 ha,wf_i64 hb,wf_i64 hc,hl⟩
end
/-! arguments -/
section
variable {H : Type} {enc : TypeId × Value → H} {P : Program} {W : World} {t : TypeId} {b0 : Nat} {r : Reach} {v : Value} {d : DataW H} {ps : List MemPlace}
theorem Opn.agg {α : Type} {cells : α → List AV} {size : α → Nat} {wf : α → Prop} {fs : Array Field} (ht : P.underlying t = some (.struct fs)) (h : ∀ N,Opn enc P W N t cells size wf) (hval : Value.okWide P W r b0 t v) (hd : DataW.Trod enc P W 0 (fun _=>true) true t v d ps) :
  ∃ a,Rep (gmA W) 1 (.agg (cells a)) v ∧ size a ≤ dbulk d ∧ wf a:=by
 obtain ⟨cs,rfl,_⟩:=okWide_struct ht hval
 obtain ⟨fuel,hf⟩:=hd
 obtain ⟨a,h1,h2,h3⟩:=h fuel fuel _ _ (Nat.le_refl _) hf
 refine ⟨a,?_,h2,h3⟩
 simp only [Rep]
 exact ⟨cs,rfl,RepL.down (by decide) _ _ h1⟩
theorem Opn.sl {α : Type} {av : α → AV} {size : α → Nat} {wf : α → Prop} {e : TypeId} (ht : P.underlying t = some (.slice e)) (h : ∀ N,Opn enc P W N t (fun a=>[av a]) size wf) (hval : Value.okWide P W r b0 t v) (hd : DataW.Trod enc P W 0 (fun _=>true) true t v d ps) :
  ∃ a,Rep (gmA W) 1 (av a) v ∧ size a ≤ dbulk d ∧ wf a:=by
 obtain ⟨A,n,c,rfl⟩:=okWide_slice ht hval
 obtain ⟨fuel,hf⟩:=hd
 obtain ⟨a,h1,h2,h3⟩:=h fuel fuel _ _ (Nat.le_refl _) hf
 refine ⟨a,?_,h2,h3⟩
 simp only [RepL,Value.cells] at h1
 obtain ⟨u,rest,hu,hr,_⟩:=h1
 cases hu
 exact Rep.down (by decide) _ _ hr
end
end Aw

namespace Go.Proofs
open Go.Shelf
def Tryd.lays169_ren : Go.Shelf.Ren:=⟨fun | 169=>40 | n=>n,fun | 70=>50 | 9=>9 | 0=>0 | 72=>52 | 37=>29 | 127=>79 | 3=>3 | 5=>5 | n=>n,fun | n=>n⟩
theorem Tryd.lays169 : Go.Proofs.Lays.n169 Tryd.prog Tryd.lays169_ren:={
 mixed:=by kernel_rfl
 f169:=Tryd.func40.trans (congrArg some (by kernel_rfl))
 t0:=Tryd.underlying0
 a0:=Tryd.isAgg0
 z0:=Tryd.sizeOf0
 v0:=Tryd.zeroValue0
 t3:=Tryd.underlying3
 a3:=Tryd.isAgg3
 z3:=Tryd.sizeOf3
 v3:=Tryd.zeroValue3
 t9:=Tryd.underlying9
 a9:=Tryd.isAgg9
 z9:=Tryd.sizeOf9
 v9:=Tryd.zeroValue9
 t37:=Tryd.underlying29
 a37:=Tryd.isAgg29
 z37:=Tryd.sizeOf29
 v37:=Tryd.zeroValue29
 t70:=Tryd.underlying50
 a70:=Tryd.isAgg50
 z70:=Tryd.sizeOf50
 v70:=Tryd.zeroValue50
 t72:=Tryd.underlying52
 a72:=Tryd.isAgg52
 z72:=Tryd.sizeOf52
 v72:=Tryd.zeroValue52
 t127:=Tryd.underlying79
 a127:=Tryd.isAgg79
 z127:=Tryd.sizeOf79
 v127:=Tryd.zeroValue79 }
theorem Tryd.Builder_Extra_169 : Builder.Extra Tryd.prog Tryd.lays169_ren:={
 sizeBuilder:=by kernel_rfl
 liesBuilder:=by kernel_rfl
 t5:=Tryd.underlying5
 a5:=Tryd.isAgg5
 z5:=Tryd.sizeOf5
 v5:=Tryd.zeroValue5
 infoByte:=by kernel_rfl
 cellsByte:=by kernel_rfl
 sizeByte:=by kernel_rfl
 neB5:=by decide }
def Tryd.lays137_ren : Go.Shelf.Ren:=⟨fun | 137=>46 | 217=>53 | 266=>59 | n=>n,fun | 9=>9 | 5=>5 | 3=>3 | n=>n,fun | n=>n⟩
theorem Tryd.lays137 : Go.Proofs.Lays.n137 Tryd.prog Tryd.lays137_ren:={
 mixed:=by kernel_rfl
 f137:=Tryd.func46.trans (congrArg some (by kernel_rfl))
 f217:=Tryd.func53.trans (congrArg some (by kernel_rfl))
 f266:=Tryd.func59.trans (congrArg some (by kernel_rfl))
 t3:=Tryd.underlying3
 a3:=Tryd.isAgg3
 z3:=Tryd.sizeOf3
 v3:=Tryd.zeroValue3
 t5:=Tryd.underlying5
 a5:=Tryd.isAgg5
 z5:=Tryd.sizeOf5
 v5:=Tryd.zeroValue5
 t9:=Tryd.underlying9
 a9:=Tryd.isAgg9
 z9:=Tryd.sizeOf9
 v9:=Tryd.zeroValue9 }
open Go.RowKit in
theorem Tryd.strings_IndexByte (s : ByteArray) (c : Int) (w : World) :
  Calls Tryd.prog 46 #[.string s,.int .u8 c] w fun e w'=>e = .returned (.int .i64 (Lib.indexByte s.data.toList c.toNat.toUInt8)) ∧ w' = w:=Any.strings_IndexByte Tryd.lays137 s c w
def Tryd.lays105_ren : Go.Shelf.Ren:=⟨fun | 105=>35 | 212=>47 | 99=>48 | 165=>49 | 166=>43 | 170=>50 | 169=>40 | 263=>54 | 264=>55 | 206=>56 | 240=>52 | 241=>57 | 276=>58 | 277=>60 | n=>n,fun | 9=>9 | 3=>3 | 4=>4 | 20=>20 | 0=>0 | 46=>60 | 109=>74 | 5=>5 | 72=>52 | 76=>66 | 51=>80 | 146=>81 | 53=>46 | 148=>83 | 70=>50 | 37=>29 | 75=>58 | 127=>79 | 164=>85 | 80=>63 | n=>n,fun | n=>n⟩
theorem Tryd.lays105 : Go.Proofs.Lays.n105 Tryd.prog Tryd.lays105_ren:={
 mixed:=by kernel_rfl
 f99:=Tryd.func48.trans (congrArg some (by kernel_rfl))
 f105:=Tryd.func35.trans (congrArg some (by kernel_rfl))
 f165:=Tryd.func49.trans (congrArg some (by kernel_rfl))
 f166:=Tryd.func43.trans (congrArg some (by kernel_rfl))
 f169:=Tryd.func40.trans (congrArg some (by kernel_rfl))
 f170:=Tryd.func50.trans (congrArg some (by kernel_rfl))
 f206:=Tryd.func56.trans (congrArg some (by kernel_rfl))
 f212:=Tryd.func47.trans (congrArg some (by kernel_rfl))
 f240:=Tryd.func52.trans (congrArg some (by kernel_rfl))
 f241:=Tryd.func57.trans (congrArg some (by kernel_rfl))
 f263:=Tryd.func54.trans (congrArg some (by kernel_rfl))
 f264:=Tryd.func55.trans (congrArg some (by kernel_rfl))
 f276:=Tryd.func58.trans (congrArg some (by kernel_rfl))
 f277:=Tryd.func60.trans (congrArg some (by kernel_rfl))
 t0:=Tryd.underlying0
 a0:=Tryd.isAgg0
 z0:=Tryd.sizeOf0
 v0:=Tryd.zeroValue0
 t3:=Tryd.underlying3
 a3:=Tryd.isAgg3
 z3:=Tryd.sizeOf3
 v3:=Tryd.zeroValue3
 t4:=Tryd.underlying4
 a4:=Tryd.isAgg4
 z4:=Tryd.sizeOf4
 v4:=Tryd.zeroValue4
 t5:=Tryd.underlying5
 a5:=Tryd.isAgg5
 z5:=Tryd.sizeOf5
 v5:=Tryd.zeroValue5
 t9:=Tryd.underlying9
 a9:=Tryd.isAgg9
 z9:=Tryd.sizeOf9
 v9:=Tryd.zeroValue9
 t20:=Tryd.underlying20
 a20:=Tryd.isAgg20
 z20:=Tryd.sizeOf20
 v20:=Tryd.zeroValue20
 t37:=Tryd.underlying29
 a37:=Tryd.isAgg29
 z37:=Tryd.sizeOf29
 v37:=Tryd.zeroValue29
 t46:=Tryd.underlying60
 a46:=Tryd.isAgg60
 z46:=Tryd.sizeOf60
 v46:=Tryd.zeroValue60
 t51:=Tryd.underlying80
 a51:=Tryd.isAgg80
 z51:=Tryd.sizeOf80
 v51:=Tryd.zeroValue80
 t53:=Tryd.underlying46
 a53:=Tryd.isAgg46
 z53:=Tryd.sizeOf46
 v53:=Tryd.zeroValue46
 t70:=Tryd.underlying50
 a70:=Tryd.isAgg50
 z70:=Tryd.sizeOf50
 v70:=Tryd.zeroValue50
 t72:=Tryd.underlying52
 a72:=Tryd.isAgg52
 z72:=Tryd.sizeOf52
 v72:=Tryd.zeroValue52
 t75:=Tryd.underlying58
 a75:=Tryd.isAgg58
 z75:=Tryd.sizeOf58
 v75:=Tryd.zeroValue58
 t76:=Tryd.underlying66
 a76:=Tryd.isAgg66
 z76:=Tryd.sizeOf66
 v76:=Tryd.zeroValue66
 t109:=Tryd.underlying74
 a109:=Tryd.isAgg74
 z109:=Tryd.sizeOf74
 v109:=Tryd.zeroValue74
 t127:=Tryd.underlying79
 a127:=Tryd.isAgg79
 z127:=Tryd.sizeOf79
 v127:=Tryd.zeroValue79
 t146:=Tryd.underlying81
 a146:=Tryd.isAgg81
 z146:=Tryd.sizeOf81
 v146:=Tryd.zeroValue81
 t148:=Tryd.underlying83
 a148:=Tryd.isAgg83
 z148:=Tryd.sizeOf83
 v148:=Tryd.zeroValue83
 t164:=Tryd.underlying85
 a164:=Tryd.isAgg85
 z164:=Tryd.sizeOf85
 v164:=Tryd.zeroValue85 }
theorem Tryd.Builder_Extra_105 : Builder.Extra Tryd.prog Tryd.lays105_ren:={
 sizeBuilder:=by kernel_rfl
 liesBuilder:=by kernel_rfl
 t5:=Tryd.underlying5
 a5:=Tryd.isAgg5
 z5:=Tryd.sizeOf5
 v5:=Tryd.zeroValue5
 infoByte:=by kernel_rfl
 cellsByte:=by kernel_rfl
 sizeByte:=by kernel_rfl
 neB5:=by decide }
open Go.RowKit Go.Lib in
theorem Tryd.strings_Repeat (s : ByteArray) (c : Nat) (w : World) (hc : c ≤ 9223372036854775807) (hlen : s.size * c ≤ 140737488355328) :
  Calls Tryd.prog 35 #[.string s,.int .i64 c] w fun e w'=>e = .returned (.string ⟨(Lib.repeatL s.data.toList c).toArray⟩) ∧ Below w.heap.size w w':=Any.strings_Repeat Tryd.lays105 Tryd.Builder_Extra_105 s c w hc hlen
end Go.Proofs

set_option linter.unusedVariables false
set_option linter.unusedSimpArgs false
namespace Go.Proofs
open Go Go.Shelf Go.RowKit
variable {P : Program} {ρ : Ren}
set_option maxHeartbeats 4000000 in
set_option maxRecDepth 100000 in
theorem Bld.String_some (L : Lays.n169 P ρ) (X : Builder.Extra P ρ) (b g cap : Nat) (p : Value) (cur : Array Value) (l : List UInt8) (w : World) (h0 : l ≠ []) (hbk : w.heap[b]? = some (.cells #[p,.slice (some ⟨g,0,none⟩) l.length cap] (ρ.t 72) (0,0)))
  (hg : w.heap[g]? = some (.cells cur (ρ.t 5) (0,0))) (hle : l.length ≤ cur.size) (hcap : l.length ≤ cap) (h63 : l.length ≤ 9223372036854775807) (hcell : ∀ j x,l[j]? = some x → w.cell? ⟨g,j,none⟩ = some (.int .u8 x.toNat)) :
  Calls P (ρ.f 169) #[.pointer (some ⟨b,0,none⟩)] w fun e w'=>e = .returned (.string ⟨l.toArray⟩) ∧ w' = w.drew.freeze ⟨g,0,none⟩ l.length:=by
 have hl0 : l.length ≠ 0:=by simpa using h0
 have c1 : w.drew.cell? ⟨b,1,none⟩ = some (.slice (some ⟨g,0,none⟩) l.length cap):=by
  have : w.drew.heap[b]? = some (.cells #[p,.slice (some ⟨g,0,none⟩) l.length cap] (ρ.t 72) (0,0)):=hbk
  rw [Lib.cell_of_heap this] <;> rfl
 have hSD : (Builtin.unsafeSliceData_ #[(ρ.t 37)] (ρ.t 127) #[.slice (some ⟨g,0,none⟩) l.length cap]).run P w.drew = .ok (.pointer (some ⟨g,0,none⟩)) w.drew :=
  Lib.run_unsafeSliceData_row _ _ _ _ _ _ (by omega)
 have hUS : (Builtin.unsafeString_ #[(ρ.t 127),(ρ.t 3)] (ρ.t 9) #[.pointer (some ⟨g,0,none⟩),.int .i64 l.length]).run P w.drew = .ok (.string ⟨l.toArray⟩) (w.drew.freeze ⟨g,0,none⟩ l.length):=by
  refine Lib.run_unsafeString_row w.drew (ρ.t 127) (ρ.t 3) (ρ.t 9) (ρ.t 5) L.t127 X.cellsByte g cur.size (by have hg' : w.drew.heap[g]? = some (.cells cur (ρ.t 5) (0,0)):=hg; simp [World.shape?,hg']) l h0 hle h63 ?_
  intro j x hx
  have:=hcell j x hx
  rw [Aw.addr_add,Nat.zero_add]
  exact this
 clear hle hcap h63
 have mixed:=L.mixed
 have t72:=L.t72; have a72:=L.a72; have z72:=L.z72; have v72:=L.v72; have u72:=run_underlying L.t72
 have t70:=L.t70; have a70:=L.a70; have z70:=L.z70; have v70:=L.v70; have u70:=run_underlying L.t70
 have t37:=L.t37; have a37:=L.a37; have z37:=L.z37; have v37:=L.v37; have u37:=run_underlying L.t37
 have t127:=L.t127; have a127:=L.a127; have z127:=L.z127; have v127:=L.v127; have u127:=run_underlying L.t127
 have t3:=L.t3; have a3:=L.a3; have z3:=L.z3; have v3:=L.v3; have u3:=run_underlying L.t3
 have t9:=L.t9; have a9:=L.a9; have z9:=L.z9; have v9:=L.v9; have u9:=run_underlying L.t9
 have t5:=X.t5; have a5:=X.a5; have z5:=X.z5; have v5:=X.v5; have u5:=run_underlying X.t5
 go_enter L.f169,Body.n169_ntmps ρ
 go_wp2
 go_region_o
 all_goals (go_wp2; go_ret; exact ⟨rfl,rfl⟩)
set_option maxHeartbeats 4000000 in
set_option maxRecDepth 100000 in
theorem Bld.String_none (L : Lays.n169 P ρ) (X : Builder.Extra P ρ) (b cap : Nat) (q : Option Addr) (p : Value) (w : World) (hq : q = none ∧ cap = 0 ∨ (∃ g,q = some ⟨g,0,none⟩) ∧ cap ≠ 0) (hbk : w.heap[b]? = some (.cells #[p,.slice q 0 cap] (ρ.t 72) (0,0))) :
  Calls P (ρ.f 169) #[.pointer (some ⟨b,0,none⟩)] w fun e w'=>e = .returned (.string ⟨#[]⟩) ∧ w' = w.drew:=by
 have hUS:=Any.unsafeString_none L X
 have c1 : w.drew.cell? ⟨b,1,none⟩ = some (.slice q 0 cap):=by
  have : w.drew.heap[b]? = some (.cells #[p,.slice q 0 cap] (ρ.t 72) (0,0)):=hbk
  rw [Lib.cell_of_heap this] <;> rfl
 have hSD : ∃ a,(Builtin.unsafeSliceData_ #[(ρ.t 37)] (ρ.t 127) #[.slice q 0 cap]).run P w.drew = .ok (.pointer a) w.drew:=by
  rcases hq with ⟨rfl,rfl⟩ | ⟨⟨g,rfl⟩,hc⟩
  ·exact ⟨none,rfl⟩
  ·exact ⟨_,Lib.run_unsafeSliceData_row _ _ _ _ _ _ hc⟩
 obtain ⟨qa,hSD⟩:=hSD
 clear hq
 have mixed:=L.mixed
 have t72:=L.t72; have a72:=L.a72; have z72:=L.z72; have v72:=L.v72; have u72:=run_underlying L.t72
 have t70:=L.t70; have a70:=L.a70; have z70:=L.z70; have v70:=L.v70; have u70:=run_underlying L.t70
 have t37:=L.t37; have a37:=L.a37; have z37:=L.z37; have v37:=L.v37; have u37:=run_underlying L.t37
 have t127:=L.t127; have a127:=L.a127; have z127:=L.z127; have v127:=L.v127; have u127:=run_underlying L.t127
 have t3:=L.t3; have a3:=L.a3; have z3:=L.z3; have v3:=L.v3; have u3:=run_underlying L.t3
 have t9:=L.t9; have a9:=L.a9; have z9:=L.z9; have v9:=L.v9; have u9:=run_underlying L.t9
 have t5:=X.t5; have a5:=X.a5; have z5:=X.z5; have v5:=X.v5; have u5:=run_underlying X.t5
 go_enter L.f169,Body.n169_ntmps ρ
 go_wp2
 go_region_o
 all_goals (go_wp2; go_ret; exact ⟨rfl,rfl⟩)
end Go.Proofs
namespace Aw
open Go Go.Shelf Go.Proofs
variable {P : Program} {ρ : Ren}
theorem SimH.gone {m m' : Mem} {hp : List (Nat × ABlk)} {nx : Nat} (hH : SimH m hp nx) (hρ : m'.ρ = m.ρ) (hF : m'.F = m.F) (hPr : m'.Pr = m.Pr) (hs : m'.w.heap.size = m.w.heap.size) : SimH m' [] nx :=
 ⟨fun _ _ h=>by simp [get] at h,fun _ _ _ _ _ _ h=>by simp [get] at h,fun id h=>by rw [hρ]; exact hH.fresh id h,fun b o h=>by rw [hs]; rw [hF] at h; exact hH.Fold b o h,fun b h=>by rw [hs]; rw [hPr] at h; exact hH.Pold b h⟩
theorem FnH.bldString {gl : List (Nat × AV)} {p : AV} {l : List UInt8} (L : Lays.n169 P ρ) (X : Builder.Extra P ρ) (h63 : l.length ≤ 9223372036854775807) (hE : Aw.enters P (ρ.f 169)) :
  FnH P gl (ρ.f 169) [.ptr 0 0] [(0,.tc (ρ.t 72) [p,.row 1 0 l.length]),(1,.brow (ρ.t 5) l)] 2 fun r h n=>r = .ret (.str l) ∧ h = [] ∧ n = 2:=by
 refine ⟨hE,fun m vs hm hv=>?_⟩
 simp only [RepL,Rep] at hv
 obtain ⟨_,_,rfl,⟨_,ri,hρ,rfl⟩,rfl⟩:=hv
 obtain ⟨ri',hρ',hb⟩:=hm.h.blk 0 _ (by rfl)
 rw [hρ] at hρ'
 injection hρ' with hρ'
 subst hρ'
 obtain ⟨hn,hP,hF,c,hbk,hL,hX⟩:=hb
 simp only [RepL] at hL
 obtain ⟨v0,_,hc0,hv0,v1,_,rfl,hv1,rfl⟩:=hL
 have hcs : c = #[v0,v1]:=by
  apply Array.ext'
  simpa using hc0
 subst hcs
 simp only [Rep] at hv1
 obtain ⟨_,rj,hρ1,hrow⟩:=hv1
 obtain ⟨rj',hρ1',hb1,hx1⟩:=hm.h.blk 1 _ (by rfl)
 rw [hρ1] at hρ1'
 injection hρ1' with hρ1'
 subst hρ1'
 have hlen : (l.map fun b=>[AV.int .u8 (b.toNat : Int)]).length = l.length:=List.length_map ..
 have hnil : ∀ (cap : Nat) (q : Option Addr),l = [] → v1 = .slice q 0 cap → (q = none ∧ cap = 0 ∨ (∃ g,q = some ⟨g,0,none⟩) ∧ cap ≠ 0) →
   Calls P (ρ.f 169) #[.pointer (some ⟨ri.b,0,none⟩)] m.w fun e w'=>∃ m' r hp' nx',m'.w = w' ∧ m.le m' ∧ SimH m' hp' nx' ∧ endOkH m' r e ∧ (r = .ret (.str l) ∧ hp' = [] ∧ nx' = 2):=by
  rintro cap q rfl rfl hq
  refine (Bld.String_none L X ri.b cap q v0 m.w hq hbk).mono ?_
  rintro e w' ⟨rfl,rfl⟩
  exact ⟨{ m with w:=m.w.drew },.ret (.str []),[],2,rfl,⟨rfl,rfl,rfl,Nat.le_refl _,rfl,fun _ _=>rfl,fun _ _ h=>h,fun _ _ _=>rfl,fun _ _ _ h=>h,rfl,fun _ _ _ h=>h⟩,hm.h.gone rfl rfl rfl rfl,
   ⟨_,rfl,by simp only [Rep]⟩,rfl,rfl,rfl⟩
 rcases hrow with ⟨hn1,_,hl0,hsv⟩ | ⟨hn1,hcap,hlt,hsv⟩ | ⟨hn1,h0,_,ad,hsv⟩
 ·exact hnil 0 none (List.eq_nil_of_length_eq_zero hl0) hsv (.inl ⟨rfl,rfl⟩)
 ·obtain ⟨⟨ho0,hc1⟩,cur,hbk1⟩:=hx1 hn1
  rw [ho0,Nat.zero_mul,Nat.add_zero,Nat.sub_zero] at hsv
  by_cases hl : l = []
  ·rw [hl] at hsv
   exact hnil rj.cap (some ⟨rj.b,0,none⟩) hl hsv (.inr ⟨⟨_,rfl⟩,by omega⟩)
  ·rcases hb1 with ⟨h,_⟩ | ⟨_,hP1,⟨_,hsz⟩,_,⟨c2,T2,lo2,hi2,hbk2,_,hcs⟩,hif⟩
   ·rw [hn1] at h; cases h
   rw [hbk1] at hbk2
   injection hbk2 with hbk2
   injection hbk2 with e1 e2 e3
   subst e1
   rw [if_pos rfl] at hif
   obtain ⟨hY,hnF⟩:=hif
   subst hsv
   have hcells : ∀ j x,l[j]? = some x → m.w.cell? ⟨rj.b,j,none⟩ = some (.int .u8 x.toNat):=by
    intro j x hj
    have hjl : j < (l.map fun b=>[AV.int .u8 (b.toNat : Int)]).length:=by
     rw [hlen]
     rcases Nat.lt_or_ge j l.length with h | h
     ·exact h
     ·rw [List.getElem?_eq_none h] at hj; cases hj
    have hjx : l[j]'(by rw [← hlen]; exact hjl) = x:=by
     rw [List.getElem?_eq_getElem (by rw [← hlen]; exact hjl)] at hj
     exact Option.some.inj hj
    obtain ⟨_,h2⟩:=hY.at j hjl
    rw [List.getElem_map,hjx,ho0,hsz,Nat.mul_one,Nat.zero_add] at h2
    simp only [RepX,Rep] at h2
    obtain ⟨⟨v,hv,rfl⟩,_⟩:=h2
    exact hv
   refine (Bld.String_some L X ri.b rj.b rj.cap v0 cur l m.w hl hbk hbk1 (by rw [ho0,hsz] at hcs; omega) (by omega) h63 hcells).mono ?_
   rintro e w' ⟨rfl,rfl⟩
   have hlz : l.length ≠ 0:=by simpa using hl
   have hheap : ∀ b,b ≠ rj.b → (m.w.drew.freeze ⟨rj.b,0,none⟩ l.length).heap[b]? = m.w.heap[b]?:=by
    intro b hb
    simp only [World.freeze,if_neg hlz,Array.getElem?_modify,if_neg (Ne.symm hb)]
    rfl
   have hbw : (m.w.drew.freeze ⟨rj.b,0,none⟩ l.length).heap.size = m.w.heap.size:=by
    simp only [World.freeze,if_neg hlz,Array.size_modify]
    rfl
   have hos : (m.w.drew.freeze ⟨rj.b,0,none⟩ l.length).os = m.w.os ∧ (m.w.drew.freeze ⟨rj.b,0,none⟩ l.length).tape = m.w.tape ∧ (m.w.drew.freeze ⟨rj.b,0,none⟩ l.length).output = m.w.output:=by
    simp only [World.freeze,if_neg hlz]
    exact ⟨rfl,rfl,rfl⟩
   refine ⟨{ m with w:=m.w.drew.freeze ⟨rj.b,0,none⟩ l.length },.ret (.str l),[],2,rfl,⟨hos.1,hos.2.1,hos.2.2,Nat.le_of_eq hbw.symm,rfl,fun b hb=>hheap b (fun q=>hP1 (q ▸ hb)),fun _ _ h=>h,fun b o hf=>?_,fun _ _ _ h=>h,rfl,fun _ _ _ h=>h⟩,
    hm.h.gone rfl rfl rfl hbw,⟨_,rfl,by simp only [Rep]⟩,rfl,rfl,rfl⟩
   have hne : b ≠ rj.b:=by
    rintro rfl
    exact hnF o (by omega) hf
   exact Aw.cell?_of_block (hheap b hne)
 ·obtain ⟨⟨_,hc1⟩,_⟩:=hx1 hn1
  omega
theorem FnH.bldCheck {gl : List (Nat × AV)} {wr : Bool} {x : AV} {blk : ABlk} (L : Lays.n240 P ρ) (X : Builder.X72 P ρ) (hE : Aw.enters P (ρ.f 240)) :
  FnH P gl (ρ.f 240) [.ptr 0 0] [(0,.tc (ρ.t 72) [bldP wr 0,x]),(1,blk)] 2 fun r h n=>r = .ret (.tup []) ∧ h = [(0,.tc (ρ.t 72) [.ptr 0 0,x]),(1,blk)] ∧ n = 2 :=
 FnH.copyCheck hE (fun b w h=>Any.Builder_copyCheck_used L X b w h) (fun b w h1 h2 h3=>Any.Builder_copyCheck_fresh L X b w h1 h2 h3)
end Aw

namespace Aw
open Go
abbrev Byt:=List UInt8
def whiteC (c : UInt8) : Bool:=c == 0 || c == 9 || c == 10 || c == 12 || c == 13 || c == 32
def digC (c : UInt8) : Option Nat :=
 if 48 ≤ c ∧ c ≤ 57 then some (c.toNat - 48) else if 65 ≤ c ∧ c ≤ 70 then some (c.toNat - 55) else if 97 ≤ c ∧ c ≤ 102 then some (c.toNat - 87) else none
def hexC (n : Nat) : UInt8:=if n < 10 then UInt8.ofNat (48 + n) else UInt8.ofNat (55 + n)
def hexB (s : Byt) : Byt:=s.flatMap fun c=>[hexC (c.toNat / 16),hexC (c.toNat % 16)]
def hexE (s : Byt) : Byt:=hexB s ++ [62]
inductive AErr | ok | arg | form | ending | long
deriving DecidableEq,Repr
def unhexS (most : Nat) : Byt → Option Nat → Byt → Byt × AErr
 | [],_,_=>([],.ending)
 | c :: s,half,out =>
  if whiteC c = true then unhexS most s half out
  else if c = 62 then (match half with
   | none=>(out,.ok)
   | some h=>if out.length + 1 ≤ most then (out ++ [UInt8.ofNat (16 * h)],.ok) else ([],.long))
  else match digC c with
   | none=>([],.form)
   | some d=>match half with
    | none=>unhexS most s (some d) out
    | some h=>if out.length + 1 ≤ most then unhexS most s none (out ++ [UInt8.ofNat (16 * h + d)]) else ([],.long)
def unhexD (s : Byt) (most : Int) : Byt × AErr:=if most < 0 then ([],.arg) else unhexS (min most.toNat 1048576) s none []
theorem u8_all {p : UInt8 → Prop} (h : ∀ n : Fin 256,p (UInt8.ofNat n.1)) (c : UInt8) : p c:=by
 have:=h ⟨c.toNat,c.toNat_lt⟩
 simpa using this
theorem hexC_ok (c : UInt8) : whiteC (hexC (c.toNat / 16)) = false ∧ hexC (c.toNat / 16) ≠ 62 ∧ digC (hexC (c.toNat / 16)) = some (c.toNat / 16) ∧
  whiteC (hexC (c.toNat % 16)) = false ∧ hexC (c.toNat % 16) ≠ 62 ∧ digC (hexC (c.toNat % 16)) = some (c.toNat % 16) ∧ UInt8.ofNat (16 * (c.toNat / 16) + c.toNat % 16) = c :=
 u8_all (p:=fun c=>whiteC (hexC (c.toNat / 16)) = false ∧ hexC (c.toNat / 16) ≠ 62 ∧ digC (hexC (c.toNat / 16)) = some (c.toNat / 16) ∧
  whiteC (hexC (c.toNat % 16)) = false ∧ hexC (c.toNat % 16) ≠ 62 ∧ digC (hexC (c.toNat % 16)) = some (c.toNat % 16) ∧ UInt8.ofNat (16 * (c.toNat / 16) + c.toNat % 16) = c) (by decide +kernel) c
theorem unhexS_white {most : Nat} {c : UInt8} {s : Byt} {half : Option Nat} {out : Byt} (h : whiteC c = true) : unhexS most (c :: s) half out = unhexS most s half out:=by simp [unhexS,h]
theorem unhexS_dig0 {most : Nat} {c : UInt8} {s : Byt} {out : Byt} {d : Nat} (h1 : whiteC c = false) (h2 : c ≠ 62) (h3 : digC c = some d) : unhexS most (c :: s) none out = unhexS most s (some d) out:=by simp [unhexS,h1,h2,h3]
theorem unhexS_dig1 {most : Nat} {c : UInt8} {s : Byt} {out : Byt} {d h : Nat} (h1 : whiteC c = false) (h2 : c ≠ 62) (h3 : digC c = some d) : unhexS most (c :: s) (some h) out = if out.length + 1 ≤ most then unhexS most s none (out ++ [UInt8.ofNat (16 * h + d)]) else ([],.long):=by simp [unhexS,h1,h2,h3]
theorem hexB_cons (c : UInt8) (s : Byt) : hexB (c :: s) = hexC (c.toNat / 16) :: hexC (c.toNat % 16) :: hexB s:=rfl
theorem unhex_run (most : Nat) (tail : Byt) : ∀ (s out : Byt),out.length + s.length ≤ most → unhexS most (hexB s ++ tail) none out = unhexS most tail none (out ++ s)
 | [],out,_=>by simp [hexB]
 | c :: s,out,h=>by
  obtain ⟨a1,a2,a3,b1,b2,b3,e⟩:=hexC_ok c
  simp only [List.length_cons] at h
  rw [hexB_cons,List.cons_append,List.cons_append,unhexS_dig0 a1 a2 a3,unhexS_dig1 b1 b2 b3,if_pos (by omega),e,unhex_run most tail s (out ++ [c]) (by simp; omega)]
  simp
theorem unhex_stop (most : Nat) (tail out : Byt) : unhexS most (62 :: tail) none out = (out,.ok):=by simp [unhexS,whiteC]
theorem unhex_back (s behind : Byt) (h : s.length ≤ 1048576) : unhexD (hexE s ++ behind) s.length = (s,.ok):=by
 unfold unhexD hexE
 rw [if_neg (by omega),List.append_assoc,unhex_run _ _ s [] (by simp; omega)]
 exact unhex_stop _ _ _
theorem hexB_len (s : Byt) : (hexB s).length = 2 * s.length:=by
 induction s with
 | nil=>rfl
 | cons c s ih=>rw [hexB_cons]; simp [ih]; omega
theorem unhexS_pre {most : Nat} {s t : Byt} (h : ∀ half out,unhexS most s half out = unhexS most t half out) : ∀ (a : Byt) (half : Option Nat) (out : Byt),unhexS most (a ++ s) half out = unhexS most (a ++ t) half out
 | [],half,out=>h half out
 | c :: a,half,out=>by
  simp only [List.cons_append,unhexS]
  have ih:=unhexS_pre h a
  simp only [ih]
theorem unhex_white {most : Nat} {a b : Byt} {w : UInt8} (hw : whiteC w = true) (half : Option Nat) (out : Byt) : unhexS most (a ++ w :: b) half out = unhexS most (a ++ b) half out :=
 unhexS_pre (fun _ _=>unhexS_white hw) a half out
def lowC (c : UInt8) : UInt8:=if 65 ≤ c ∧ c ≤ 70 then c + 32 else c
theorem lowC_ok (c : UInt8) : whiteC (lowC c) = whiteC c ∧ (lowC c = 62 ↔ c = 62) ∧ digC (lowC c) = digC c :=
 u8_all (p:=fun c=>whiteC (lowC c) = whiteC c ∧ (lowC c = 62 ↔ c = 62) ∧ digC (lowC c) = digC c) (by decide +kernel) c
theorem unhex_low (most : Nat) : ∀ (s : Byt) (half : Option Nat) (out : Byt),unhexS most (s.map lowC) half out = unhexS most s half out
 | [],_,_=>rfl
 | c :: s,half,out=>by
  obtain ⟨h1,h2,h3⟩:=lowC_ok c
  simp only [List.map_cons,unhexS,h1,h2,h3,unhex_low most s]
/-! ### run lengths -/
def alikeN : Byt → Nat
 | []=>0
 | c :: s=>min 128 ((c :: s).takeWhile (· == c)).length
def litGo : Byt → Nat → Nat
 | [],k=>k
 | c :: s,k=>if 128 ≤ k then k else if alikeN (c :: s) < 3 then litGo s (k + 1) else k
theorem litGo_ge : ∀ (s : Byt) (k : Nat),k ≤ litGo s k
 | [],k=>Nat.le_refl k
 | c :: s,k=>by
  unfold litGo
  split
  ·exact Nat.le_refl k
  ·split
   ·exact Nat.le_of_succ_le (litGo_ge s (k + 1))
   ·exact Nat.le_refl k
theorem litGo_le : ∀ (s : Byt) (k : Nat),k ≤ 128 → litGo s k ≤ 128 ∧ litGo s k ≤ k + s.length
 | [],k,h=>⟨h,Nat.le_refl _⟩
 | c :: s,k,h=>by
  unfold litGo
  split
  ·exact ⟨h,Nat.le_add_right _ _⟩
  ·split
   ·have:=litGo_le s (k + 1) (by omega)
    simp only [List.length_cons]
    omega
   ·exact ⟨h,Nat.le_add_right _ _⟩
theorem lit_pos {c : UInt8} {s : Byt} (h : alikeN (c :: s) < 3) : 1 ≤ litGo (c :: s) 0:=by
 unfold litGo
 rw [if_neg (by omega),if_pos h]
 exact litGo_ge s 1
theorem alikeN_cons (c : UInt8) (s : Byt) : alikeN (c :: s) = min 128 ((c :: s).takeWhile (· == c)).length:=rfl
theorem alikeN_le (s : Byt) : alikeN s ≤ 128 ∧ alikeN s ≤ s.length:=by
 cases s with
 | nil=>exact ⟨Nat.zero_le _,Nat.le_refl _⟩
 | cons c s =>
  have:=(List.takeWhile_sublist (l:=c :: s) (· == c)).length_le
  rw [alikeN_cons]
  omega
def runB (s : Byt) : Byt :=
 match s with
 | []=>[]
 | c :: t=>if 3 ≤ alikeN (c :: t) then UInt8.ofNat (257 - alikeN (c :: t)) :: c :: runB ((c :: t).drop (alikeN (c :: t)))
  else UInt8.ofNat (litGo (c :: t) 0 - 1) :: ((c :: t).take (litGo (c :: t) 0) ++ runB ((c :: t).drop (litGo (c :: t) 0)))
termination_by s.length
decreasing_by
 ·simp only [List.length_drop,List.length_cons]; omega
 ·have:=lit_pos (c:=c) (s:=t) (by omega)
  simp only [List.length_drop,List.length_cons]; omega
def runE (s : Byt) : Byt:=runB s ++ [128]
def unrunS (most : Nat) (s out : Byt) : Byt × AErr :=
 match s with
 | []=>([],.ending)
 | c :: t=>if c = 128 then (out,.ok)
  else if c < 128 then
   if t.length ≤ c.toNat then ([],.ending) else if out.length + (c.toNat + 1) ≤ most then unrunS most (t.drop (c.toNat + 1)) (out ++ t.take (c.toNat + 1)) else ([],.long)
  else match t with
   | []=>([],.ending)
   | x :: t=>if out.length + (257 - c.toNat) ≤ most then unrunS most t (out ++ List.replicate (257 - c.toNat) x) else ([],.long)
termination_by s.length
decreasing_by
 ·simp only [List.length_drop,List.length_cons]; omega
 ·simp only [List.length_cons]; omega
def unrunD (s : Byt) (most : Int) : Byt × AErr:=if most < 0 then ([],.arg) else unrunS (min most.toNat 1048576) s []
theorem unrunS_nil (most : Nat) (out : Byt) : unrunS most [] out = ([],.ending):=by rw [unrunS.eq_def]
theorem unrunS_big {most : Nat} {c x : UInt8} {t out : Byt} (h1 : c ≠ 128) (h2 : ¬ c < 128) : unrunS most (c :: x :: t) out = if out.length + (257 - c.toNat) ≤ most then unrunS most t (out ++ List.replicate (257 - c.toNat) x) else ([],.long):=by
 conv=>lhs; rw [unrunS.eq_def]
 simp only [h1,h2,if_false]
theorem runB_nil : runB [] = []:=by rw [runB]
theorem runB_many {c : UInt8} {t : Byt} (h : 3 ≤ alikeN (c :: t)) : runB (c :: t) = UInt8.ofNat (257 - alikeN (c :: t)) :: c :: runB ((c :: t).drop (alikeN (c :: t))):=by rw [runB,if_pos h]
theorem runB_few {c : UInt8} {t : Byt} (h : ¬ 3 ≤ alikeN (c :: t)) : runB (c :: t) = UInt8.ofNat (litGo (c :: t) 0 - 1) :: ((c :: t).take (litGo (c :: t) 0) ++ runB ((c :: t).drop (litGo (c :: t) 0))):=by rw [runB,if_neg h]
theorem unrun_stop (most : Nat) (tail out : Byt) : unrunS most (128 :: tail) out = (out,.ok):=by
 conv=>lhs; rw [unrunS.eq_def]
 simp only [if_true]
theorem lit_stop : ∀ (s : Byt) (k : Nat),litGo s k < 128 → s.drop (litGo s k - k) = [] ∨ 3 ≤ alikeN (s.drop (litGo s k - k))
 | [],k,_=>.inl (by simp)
 | c :: s,k,h=>by
  unfold litGo at h ⊢
  split at h
  ·omega
  ·rename_i h1
   rw [if_neg h1]
   split at h
   ·rename_i h2
    rw [if_pos h2]
    have hg:=litGo_ge s (k + 1)
    rw [show litGo s (k + 1) - k = (litGo s (k + 1) - (k + 1)) + 1 by omega,List.drop_succ_cons]
    exact lit_stop s (k + 1) h
   ·rename_i h2
    rw [if_neg h2,Nat.sub_self]
    exact .inr (by simpa using h2)
theorem runB_len : ∀ (n : Nat) (s : Byt),s.length ≤ n → (runB s).length ≤ s.length + (s.length + 127) / 128 ∧ (3 ≤ alikeN s → (runB s).length + 1 ≤ s.length + (s.length + 127) / 128)
 | _,[],_=>⟨by rw [runB_nil]; exact Nat.zero_le _,fun h=>absurd h (by decide)⟩
 | 0,c :: t,h=>absurd h (by simp)
 | n + 1,c :: t,h=>by
  by_cases h3 : 3 ≤ alikeN (c :: t)
  ·have hl:=alikeN_le (c :: t)
   have hd : ((c :: t).drop (alikeN (c :: t))).length = (c :: t).length - alikeN (c :: t):=List.length_drop
   have ih:=(runB_len n ((c :: t).drop (alikeN (c :: t))) (by simp only [List.length_cons] at h hd ⊢; omega)).1
   rw [runB_many h3,List.length_cons,List.length_cons]
   omega
  ·have hp:=lit_pos (c:=c) (s:=t) (by omega)
   have hl:=litGo_le (c :: t) 0 (by omega)
   have hd : ((c :: t).drop (litGo (c :: t) 0)).length = (c :: t).length - litGo (c :: t) 0:=List.length_drop
   have ht : ((c :: t).take (litGo (c :: t) 0)).length = litGo (c :: t) 0:=by rw [List.length_take]; omega
   have ih:=runB_len n ((c :: t).drop (litGo (c :: t) 0)) (by simp only [List.length_cons] at h hd ⊢; omega)
   rw [runB_few h3,List.length_cons,List.length_append,ht]
   refine ⟨?_,fun h=>absurd h h3⟩
   by_cases h4 : litGo (c :: t) 0 < 128
   ·rcases lit_stop (c :: t) 0 h4 with h5 | h5
    ·rw [Nat.sub_zero] at h5
     rw [h5] at hd ⊢
     rw [runB_nil]
     simp only [List.length_nil] at hd ⊢
     omega
    ·rw [Nat.sub_zero] at h5
     have:=ih.2 h5
     omega
   ·omega
def grp4 (a b c d : UInt8) : Nat:=((a.toNat * 256 + b.toNat) * 256 + c.toNat) * 256 + d.toNat
def digF (n k : Nat) : Nat:=n / 85 ^ (4 - k) % 85
def chF (n k : Nat) : UInt8:=UInt8.ofNat (33 + digF n k)
def fiveB : Byt → Byt
 | a :: b :: c :: d :: t=>(if grp4 a b c d = 0 then [122] else [chF (grp4 a b c d) 0,chF (grp4 a b c d) 1,chF (grp4 a b c d) 2,chF (grp4 a b c d) 3,chF (grp4 a b c d) 4]) ++ fiveB t
 | [a,b,c]=>[chF (grp4 a b c 0) 0,chF (grp4 a b c 0) 1,chF (grp4 a b c 0) 2,chF (grp4 a b c 0) 3]
 | [a,b]=>[chF (grp4 a b 0 0) 0,chF (grp4 a b 0 0) 1,chF (grp4 a b 0 0) 2]
 | [a]=>[chF (grp4 a 0 0 0) 0,chF (grp4 a 0 0 0) 1]
 | []=>[]
def fiveE (s : Byt) : Byt:=fiveB s ++ [126,62]
def val5 (l : List Nat) : Nat:=(((l.getD 0 84 * 85 + l.getD 1 84) * 85 + l.getD 2 84) * 85 + l.getD 3 84) * 85 + l.getD 4 84
def bytes4 (n : Nat) : Byt:=[UInt8.ofNat (n / 16777216),UInt8.ofNat (n / 65536),UInt8.ofNat (n / 256),UInt8.ofNat n]
def unfiveS (most : Nat) : Byt → List Nat → Byt → Byt × AErr
 | [],_,_=>([],.ending)
 | c :: s,l,out =>
  if whiteC c = true then unfiveS most s l out
  else if c = 122 ∧ l = [] then (if out.length + 4 ≤ most then unfiveS most s [] (out ++ [0,0,0,0]) else ([],.long))
  else if 33 ≤ c ∧ c ≤ 117 then
   if l.length = 4 then
    if 4294967296 ≤ val5 (l ++ [c.toNat - 33]) then ([],.form) else if out.length + 4 ≤ most then unfiveS most s [] (out ++ bytes4 (val5 (l ++ [c.toNat - 33]))) else ([],.long)
   else unfiveS most s (l ++ [c.toNat - 33]) out
  else if c = 126 then match s with
   | []=>([],.ending)
   | x :: _=>if x = 62 ∧ l.length ≠ 1 then
     if l = [] then (out,.ok) else if 4294967296 ≤ val5 l then ([],.form) else if out.length + (l.length - 1) ≤ most then (out ++ (bytes4 (val5 l)).take (l.length - 1),.ok) else ([],.long)
    else ([],.form)
  else ([],.form)
def unfiveD (s : Byt) (most : Int) : Byt × AErr:=if most < 0 then ([],.arg) else unfiveS (min most.toNat 1048576) s [] []
theorem dig_lt (n k : Nat) : digF n k < 85:=Nat.mod_lt _ (by decide)
theorem ch_nat (n k : Nat) : (chF n k).toNat = 33 + digF n k:=by
 have:=dig_lt n k
 unfold chF
 rw [UInt8.toNat_ofNat']
 omega
theorem ch_ok (n k : Nat) : whiteC (chF n k) = false ∧ chF n k ≠ 122 ∧ (33 ≤ chF n k ∧ chF n k ≤ 117) ∧ (chF n k).toNat - 33 = digF n k:=by
 have h:=ch_nat n k
 have hl:=dig_lt n k
 have hw : ∀ c : UInt8,33 ≤ c.toNat → whiteC c = false:=fun c=>u8_all (p:=fun c=>33 ≤ c.toNat → whiteC c = false) (by decide +kernel) c
 refine ⟨hw _ (by omega),?_,⟨?_,?_⟩,by omega⟩
 ·rw [ne_eq,← UInt8.toNat_inj,h]; show ¬ 33 + digF n k = 122; omega
 ·rw [UInt8.le_iff_toNat_le,h]; show 33 ≤ 33 + digF n k; omega
 ·rw [UInt8.le_iff_toNat_le,h]; show 33 + digF n k ≤ 117; omega
theorem un_dig {most n k : Nat} {s : Byt} {l : List Nat} {out : Byt} (hl : l.length < 4) : unfiveS most (chF n k :: s) l out = unfiveS most s (l ++ [digF n k]) out:=by
 obtain ⟨h1,h2,h3,h4⟩:=ch_ok n k
 conv=>lhs; unfold unfiveS
 rw [if_neg (by rw [h1]; decide),if_neg (fun h=>h2 h.1),if_pos h3,if_neg (by omega),h4]
theorem un_dig5 {most n k : Nat} {s : Byt} {l : List Nat} {out : Byt} (hl : l.length = 4) : unfiveS most (chF n k :: s) l out =
  if 4294967296 ≤ val5 (l ++ [digF n k]) then ([],.form) else if out.length + 4 ≤ most then unfiveS most s [] (out ++ bytes4 (val5 (l ++ [digF n k]))) else ([],.long):=by
 obtain ⟨h1,h2,h3,h4⟩:=ch_ok n k
 conv=>lhs; unfold unfiveS
 rw [if_neg (by rw [h1]; decide),if_neg (fun h=>h2 h.1),if_pos h3,if_pos hl,h4]
theorem val_full {n : Nat} (h : n < 4294967296) : val5 [digF n 0,digF n 1,digF n 2,digF n 3,digF n 4] = n:=by
 unfold val5 digF
 simp only [List.getD_cons_zero,List.getD_cons_succ,show (85 : Nat) ^ (4 - 0) = 52200625 from rfl,show (85 : Nat) ^ (4 - 1) = 614125 from rfl,show (85 : Nat) ^ (4 - 2) = 7225 from rfl,show (85 : Nat) ^ (4 - 3) = 85 from rfl,show (85 : Nat) ^ (4 - 4) = 1 from rfl]
 omega
theorem grp_lt (a b c d : UInt8) : grp4 a b c d < 4294967296:=by
 have:=a.toNat_lt; have:=b.toNat_lt; have:=c.toNat_lt; have:=d.toNat_lt
 unfold grp4
 omega
theorem ofNat_eq {c : UInt8} {n : Nat} (h : n % 256 = c.toNat) : UInt8.ofNat n = c:=by
 rw [← UInt8.toNat_inj,UInt8.toNat_ofNat']
 exact h
theorem bytes_grp (a b c d : UInt8) : bytes4 (grp4 a b c d) = [a,b,c,d]:=by
 have:=a.toNat_lt; have:=b.toNat_lt; have:=c.toNat_lt; have:=d.toNat_lt
 unfold bytes4 grp4
 rw [ofNat_eq (c:=a) (by omega),ofNat_eq (c:=b) (by omega),ofNat_eq (c:=c) (by omega),ofNat_eq (c:=d) (by omega)]
def grpB (a b c d : UInt8) : Byt:=if grp4 a b c d = 0 then [122] else [chF (grp4 a b c d) 0,chF (grp4 a b c d) 1,chF (grp4 a b c d) 2,chF (grp4 a b c d) 3,chF (grp4 a b c d) 4]
theorem un_grp (most : Nat) (a b c d : UInt8) (s out : Byt) : unfiveS most (grpB a b c d ++ s) [] out = if out.length + 4 ≤ most then unfiveS most s [] (out ++ [a,b,c,d]) else ([],.long):=by
 unfold grpB
 split
 ·rename_i h0
  have:=a.toNat_lt; have:=b.toNat_lt; have:=c.toNat_lt; have:=d.toNat_lt
  unfold grp4 at h0
  have ea : a = 0:=by rw [← UInt8.toNat_inj]; show a.toNat = 0; omega
  have eb : b = 0:=by rw [← UInt8.toNat_inj]; show b.toNat = 0; omega
  have ec : c = 0:=by rw [← UInt8.toNat_inj]; show c.toNat = 0; omega
  have ed : d = 0:=by rw [← UInt8.toNat_inj]; show d.toNat = 0; omega
  subst ea eb ec ed
  show unfiveS most (122 :: s) [] out = _
  conv=>lhs; unfold unfiveS
  rw [if_neg (by decide),if_pos (by simp)]
 ·show unfiveS most (chF (grp4 a b c d) 0 :: chF (grp4 a b c d) 1 :: chF (grp4 a b c d) 2 :: chF (grp4 a b c d) 3 :: chF (grp4 a b c d) 4 :: s) [] out = _
  rw [un_dig (by decide),un_dig (by simp),un_dig (by simp),un_dig (by simp),un_dig5 (by simp)]
  simp only [List.nil_append,List.cons_append]
  rw [val_full (grp_lt a b c d),if_neg (by have:=grp_lt a b c d; omega),bytes_grp]
theorem un_end {most : Nat} {s : Byt} {l : List Nat} {out : Byt} : unfiveS most (126 :: 62 :: s) l out = if l.length = 1 then ([],.form) else if l = [] then (out,.ok) else if 4294967296 ≤ val5 l then ([],.form) else
  if out.length + (l.length - 1) ≤ most then (out ++ (bytes4 (val5 l)).take (l.length - 1),.ok) else ([],.long):=by
 conv=>lhs; unfold unfiveS
 rw [if_neg (by decide),if_neg (fun h=>absurd h.1 (by decide)),if_neg (by decide),if_pos rfl]
 simp only
 by_cases h : l.length = 1
 ·rw [if_neg (fun q=>q.2 h),if_pos h]
 ·rw [if_pos ⟨trivial,h⟩,if_neg h]
theorem dig_pows (n : Nat) : digF n 0 = n / 52200625 % 85 ∧ digF n 1 = n / 614125 % 85 ∧ digF n 2 = n / 7225 % 85 ∧ digF n 3 = n / 85 % 85:=⟨rfl,rfl,rfl,rfl⟩
theorem b3 {a b c e : Nat} (ha : a < 256) (hb : b < 256) (hc : c < 256) (he : e < 256) : ((a * 65536 + b * 256 + c) * 256 + e) / 16777216 % 256 = a ∧ ((a * 65536 + b * 256 + c) * 256 + e) / 65536 % 256 = b ∧ ((a * 65536 + b * 256 + c) * 256 + e) / 256 % 256 = c:=by
 refine ⟨?_,?_,?_⟩ <;> omega
theorem b2 {a b e : Nat} (ha : a < 256) (hb : b < 256) (he : e < 65536) : ((a * 256 + b) * 65536 + e) / 16777216 % 256 = a ∧ ((a * 256 + b) * 65536 + e) / 65536 % 256 = b:=by
 refine ⟨?_,?_⟩ <;> omega
theorem b1 {a e : Nat} (ha : a < 256) (he : e < 16777216) : (a * 16777216 + e) / 16777216 % 256 = a:=by omega
theorem un_tail3 (most : Nat) (a b c : UInt8) (s out : Byt) : unfiveS most (fiveB [a,b,c] ++ 126 :: 62 :: s) [] out = if out.length + 3 ≤ most then (out ++ [a,b,c],.ok) else ([],.long):=by
 show unfiveS most (chF (grp4 a b c 0) 0 :: chF (grp4 a b c 0) 1 :: chF (grp4 a b c 0) 2 :: chF (grp4 a b c 0) 3 :: 126 :: 62 :: s) [] out = _
 rw [un_dig (by decide),un_dig (by simp),un_dig (by simp),un_dig (by simp),un_end]
 have:=a.toNat_lt; have:=b.toNat_lt; have:=c.toNat_lt
 obtain ⟨d0,d1,d2,d3⟩:=dig_pows (grp4 a b c 0)
 have hv : val5 [digF (grp4 a b c 0) 0,digF (grp4 a b c 0) 1,digF (grp4 a b c 0) 2,digF (grp4 a b c 0) 3] = grp4 a b c 0 / 85 * 85 + 84:=by
  have:=grp_lt a b c 0
  unfold val5
  simp only [List.getD_cons_zero,List.getD_cons_succ,List.getD_nil]
  rw [d0,d1,d2,d3]
  omega
 simp only [List.nil_append,List.cons_append]
 rw [if_neg (by simp),if_neg (by simp),hv]
 have hg : grp4 a b c 0 = (a.toNat * 65536 + b.toNat * 256 + c.toNat) * 256:=by unfold grp4; rw [show (0 : UInt8).toNat = 0 from rfl]; omega
 obtain ⟨e,he,hx⟩ : ∃ e,e < 256 ∧ ((a.toNat * 65536 + b.toNat * 256 + c.toNat) * 256) / 85 * 85 + 84 = ((a.toNat * 65536 + b.toNat * 256 + c.toNat) * 256) + e:=⟨((a.toNat * 65536 + b.toNat * 256 + c.toNat) * 256) / 85 * 85 + 84 - ((a.toNat * 65536 + b.toNat * 256 + c.toNat) * 256),by omega,by omega⟩
 rw [hg,hx,if_neg (by omega)]
 show (if out.length + 3 ≤ most then (out ++ (bytes4 _).take 3,AErr.ok) else _) = _
 unfold bytes4
 obtain ⟨q1,q2,q3⟩:=b3 (a:=a.toNat) (b:=b.toNat) (c:=c.toNat) (by omega) (by omega) (by omega) he
 rw [ofNat_eq q1,ofNat_eq q2,ofNat_eq q3]
 rfl
theorem un_tail2 (most : Nat) (a b : UInt8) (s out : Byt) : unfiveS most (fiveB [a,b] ++ 126 :: 62 :: s) [] out = if out.length + 2 ≤ most then (out ++ [a,b],.ok) else ([],.long):=by
 show unfiveS most (chF (grp4 a b 0 0) 0 :: chF (grp4 a b 0 0) 1 :: chF (grp4 a b 0 0) 2 :: 126 :: 62 :: s) [] out = _
 rw [un_dig (by decide),un_dig (by simp),un_dig (by simp),un_end]
 have:=a.toNat_lt; have:=b.toNat_lt
 obtain ⟨d0,d1,d2,d3⟩:=dig_pows (grp4 a b 0 0)
 have hv : val5 [digF (grp4 a b 0 0) 0,digF (grp4 a b 0 0) 1,digF (grp4 a b 0 0) 2] = grp4 a b 0 0 / 7225 * 7225 + 7224:=by
  have:=grp_lt a b 0 0
  unfold val5
  simp only [List.getD_cons_zero,List.getD_cons_succ,List.getD_nil]
  rw [d0,d1,d2]
  omega
 simp only [List.nil_append,List.cons_append]
 rw [if_neg (by simp),if_neg (by simp),hv]
 have hg : grp4 a b 0 0 = (a.toNat * 256 + b.toNat) * 65536:=by unfold grp4; rw [show (0 : UInt8).toNat = 0 from rfl]; omega
 obtain ⟨e,he,hx⟩ : ∃ e,e < 65536 ∧ ((a.toNat * 256 + b.toNat) * 65536) / 7225 * 7225 + 7224 = ((a.toNat * 256 + b.toNat) * 65536) + e:=⟨((a.toNat * 256 + b.toNat) * 65536) / 7225 * 7225 + 7224 - ((a.toNat * 256 + b.toNat) * 65536),by omega,by omega⟩
 rw [hg,hx,if_neg (by omega)]
 show (if out.length + 2 ≤ most then (out ++ (bytes4 _).take 2,AErr.ok) else _) = _
 unfold bytes4
 obtain ⟨q1,q2⟩:=b2 (a:=a.toNat) (b:=b.toNat) (by omega) (by omega) he
 rw [ofNat_eq q1,ofNat_eq q2]
 rfl
theorem un_tail1 (most : Nat) (a : UInt8) (s out : Byt) : unfiveS most (fiveB [a] ++ 126 :: 62 :: s) [] out = if out.length + 1 ≤ most then (out ++ [a],.ok) else ([],.long):=by
 show unfiveS most (chF (grp4 a 0 0 0) 0 :: chF (grp4 a 0 0 0) 1 :: 126 :: 62 :: s) [] out = _
 rw [un_dig (by decide),un_dig (by simp),un_end]
 have:=a.toNat_lt
 obtain ⟨d0,d1,d2,d3⟩:=dig_pows (grp4 a 0 0 0)
 have hv : val5 [digF (grp4 a 0 0 0) 0,digF (grp4 a 0 0 0) 1] = grp4 a 0 0 0 / 614125 * 614125 + 614124:=by
  have:=grp_lt a 0 0 0
  unfold val5
  simp only [List.getD_cons_zero,List.getD_cons_succ,List.getD_nil]
  rw [d0,d1]
  omega
 simp only [List.nil_append,List.cons_append]
 rw [if_neg (by simp),if_neg (by simp),hv]
 have hg : grp4 a 0 0 0 = a.toNat * 16777216:=by unfold grp4; rw [show (0 : UInt8).toNat = 0 from rfl]; omega
 obtain ⟨e,he,hx⟩ : ∃ e,e < 16777216 ∧ (a.toNat * 16777216) / 614125 * 614125 + 614124 = (a.toNat * 16777216) + e:=⟨(a.toNat * 16777216) / 614125 * 614125 + 614124 - (a.toNat * 16777216),by omega,by omega⟩
 rw [hg,hx,if_neg (by omega)]
 show (if out.length + 1 ≤ most then (out ++ (bytes4 _).take 1,AErr.ok) else _) = _
 unfold bytes4
 rw [ofNat_eq (b1 (a:=a.toNat) (by omega) he)]
 rfl
theorem fiveB_grp (a b c d : UInt8) (t : Byt) : fiveB (a :: b :: c :: d :: t) = grpB a b c d ++ fiveB t:=rfl
theorem unfive_run (most : Nat) (tail : Byt) : ∀ (s out : Byt),out.length ≤ most → unfiveS most (fiveB s ++ 126 :: 62 :: tail) [] out = if out.length + s.length ≤ most then (out ++ s,.ok) else ([],.long)
 | a :: b :: c :: d :: t,out,h=>by
  rw [fiveB_grp,List.append_assoc,un_grp]
  by_cases h4 : out.length + 4 ≤ most
  ·rw [if_pos h4,unfive_run most tail t (out ++ [a,b,c,d]) (by simpa using h4)]
   simp only [List.length_append,List.length_cons,List.length_nil,List.append_assoc,List.cons_append,List.nil_append]
   rw [show out.length + (0 + 1 + 1 + 1 + 1) + t.length = out.length + (t.length + 1 + 1 + 1 + 1) by omega]
  ·rw [if_neg h4,if_neg (by simp only [List.length_cons]; omega)]
 | [a,b,c],out,_=>un_tail3 most a b c tail out
 | [a,b],out,_=>un_tail2 most a b tail out
 | [a],out,_=>un_tail1 most a tail out
 | [],out,h=>by
  show unfiveS most (126 :: 62 :: tail) [] out = _
  rw [un_end,if_neg (by decide),if_pos rfl,if_pos (by simpa using h),List.append_nil]
theorem unfive_back (s behind : Byt) (h : s.length ≤ 1048576) : unfiveD (fiveE s ++ behind) s.length = (s,.ok):=by
 unfold unfiveD fiveE
 have:=unfive_run (min (s.length : Int).toNat 1048576) behind s [] (Nat.zero_le _)
 rw [if_neg (by omega),List.append_assoc]
 show unfiveS _ (fiveB s ++ 126 :: 62 :: behind) [] [] = _
 rw [this,if_pos (by simp only [List.length_nil]; omega)]
 rfl
theorem un_cut0 (most : Nat) (l : List Nat) (out : Byt) : unfiveS most [] l out = ([],.ending):=by unfold unfiveS; rfl
theorem unfiveS_pre {most : Nat} {s t : Byt} (h : ∀ l out,unfiveS most s l out = unfiveS most t l out) : ∀ (a : Byt) (l : List Nat) (out : Byt),(∀ c ∈ a,c ≠ 126) → unfiveS most (a ++ s) l out = unfiveS most (a ++ t) l out
 | [],l,out,_=>h l out
 | c :: a,l,out,hc=>by
  have h9 : c ≠ 126:=hc c List.mem_cons_self
  have ih:=fun l out=>unfiveS_pre h a l out fun x hx=>hc x (List.mem_cons_of_mem _ hx)
  simp only [List.cons_append,unfiveS,ih,h9,if_false]
theorem unfive_white {most : Nat} {a b : Byt} {w : UInt8} (hw : whiteC w = true) (ha : ∀ c ∈ a,c ≠ 126) (l : List Nat) (out : Byt) : unfiveS most (a ++ w :: b) l out = unfiveS most (a ++ b) l out :=
 unfiveS_pre (fun l out=>by conv=>lhs; unfold unfiveS; rw [if_pos hw]) a l out ha
theorem ch_126 (n k : Nat) : chF n k ≠ 126:=fun h=>by
 have:=(ch_ok n k).2.2.1.2
 rw [h] at this
 exact absurd this (by decide)
theorem fiveB_126 : ∀ (s : Byt),∀ c ∈ fiveB s,c ≠ 126
 | a :: b :: c :: d :: t,x,hx=>by
  rw [fiveB_grp,List.mem_append] at hx
  rcases hx with hx | hx
  ·unfold grpB at hx
   split at hx
   ·rw [List.mem_singleton] at hx
    rw [hx]
    decide
   ·simp only [List.mem_cons,List.not_mem_nil,or_false] at hx
    rcases hx with rfl | rfl | rfl | rfl | rfl <;> exact ch_126 _ _
  ·exact fiveB_126 t x hx
 | [a,b,c],x,hx=>by
  simp only [fiveB,List.mem_cons,List.not_mem_nil,or_false] at hx
  rcases hx with rfl | rfl | rfl | rfl <;> exact ch_126 _ _
 | [a,b],x,hx=>by
  simp only [fiveB,List.mem_cons,List.not_mem_nil,or_false] at hx
  rcases hx with rfl | rfl | rfl <;> exact ch_126 _ _
 | [a],x,hx=>by
  simp only [fiveB,List.mem_cons,List.not_mem_nil,or_false] at hx
  rcases hx with rfl | rfl <;> exact ch_126 _ _
 | [],x,hx=>by cases hx
theorem fiveB_len : ∀ (s : Byt),(fiveB s).length ≤ 5 * ((s.length + 3) / 4)
 | a :: b :: c :: d :: t=>by
  have ih:=fiveB_len t
  have hg : (grpB a b c d).length ≤ 5:=by unfold grpB; split <;> simp
  rw [fiveB_grp,List.length_append]
  simp only [List.length_cons]
  omega
 | [a,b,c]=>by simp [fiveB]
 | [a,b]=>by simp [fiveB]
 | [a]=>by simp [fiveB]
 | []=>by simp [fiveB]
theorem fiveE_len (s : Byt) : (fiveE s).length ≤ 5 * ((s.length + 3) / 4) + 2:=by
 have:=fiveB_len s
 unfold fiveE
 rw [List.length_append]
 simp only [List.length_cons,List.length_nil]
 omega
def digI (c : UInt8) : Int:=match digC c with | none=>-1 | some d=>d
theorem digI_bd (c : UInt8) : -1 ≤ digI c ∧ digI c ≤ 15:=u8_all (p:=fun c=>-1 ≤ digI c ∧ digI c ≤ 15) (by decide +kernel) c
theorem digI_neg {c : UInt8} (h : digI c < 0) : digC c = none:=by
 unfold digI at h
 split at h
 ·assumption
 ·omega
theorem digI_pos {c : UInt8} (h : 0 ≤ digI c) : digC c = some (digI c).toNat:=by
 unfold digI at *
 split at h
 ·omega
 ·rename_i d hd
  rw [hd]
  simp
theorem digI_d {c : UInt8} (h1 : 48 ≤ (c.toNat : Int)) (h2 : (c.toNat : Int) ≤ 57) : digI c = (c.toNat : Int) - 48 :=
 u8_all (p:=fun c=>48 ≤ (c.toNat : Int) → (c.toNat : Int) ≤ 57 → digI c = (c.toNat : Int) - 48) (by decide +kernel) c h1 h2
theorem digI_u {c : UInt8} (h1 : 65 ≤ (c.toNat : Int)) (h2 : (c.toNat : Int) ≤ 70) : digI c = (c.toNat : Int) - 55 :=
 u8_all (p:=fun c=>65 ≤ (c.toNat : Int) → (c.toNat : Int) ≤ 70 → digI c = (c.toNat : Int) - 55) (by decide +kernel) c h1 h2
theorem digI_l {c : UInt8} (h1 : 97 ≤ (c.toNat : Int)) (h2 : (c.toNat : Int) ≤ 102) : digI c = (c.toNat : Int) - 87 :=
 u8_all (p:=fun c=>97 ≤ (c.toNat : Int) → (c.toNat : Int) ≤ 102 → digI c = (c.toNat : Int) - 87) (by decide +kernel) c h1 h2
theorem digI_n {c : UInt8} (h1 : ¬ (48 ≤ (c.toNat : Int) ∧ (c.toNat : Int) ≤ 57)) (h2 : ¬ (65 ≤ (c.toNat : Int) ∧ (c.toNat : Int) ≤ 70)) (h3 : ¬ (97 ≤ (c.toNat : Int) ∧ (c.toNat : Int) ≤ 102)) : digI c = -1 :=
 u8_all (p:=fun c=>¬ (48 ≤ (c.toNat : Int) ∧ (c.toNat : Int) ≤ 57) → ¬ (65 ≤ (c.toNat : Int) ∧ (c.toNat : Int) ≤ 70) → ¬ (97 ≤ (c.toNat : Int) ∧ (c.toNat : Int) ≤ 102) → digI c = -1) (by decide +kernel) c h1 h2 h3
theorem digs_hi (c : UInt8) : (([48,49,50,51,52,53,54,55,56,57,65,66,67,68,69,70] : List UInt8).getD (c.toNat / 16) 0) = hexC (c.toNat / 16) :=
 u8_all (p:=fun c=>(([48,49,50,51,52,53,54,55,56,57,65,66,67,68,69,70] : List UInt8).getD (c.toNat / 16) 0) = hexC (c.toNat / 16)) (by decide +kernel) c
theorem digs_lo (c : UInt8) : (([48,49,50,51,52,53,54,55,56,57,65,66,67,68,69,70] : List UInt8).getD (c.toNat % 16) 0) = hexC (c.toNat % 16) :=
 u8_all (p:=fun c=>(([48,49,50,51,52,53,54,55,56,57,65,66,67,68,69,70] : List UInt8).getD (c.toNat % 16) 0) = hexC (c.toNat % 16)) (by decide +kernel) c
theorem u8_hi4 (c : UInt8) : bitShr .u8 (c.toNat : Int) 4 = ((c.toNat / 16 : Nat) : Int):=u8_all (p:=fun c=>bitShr .u8 (c.toNat : Int) 4 = ((c.toNat / 16 : Nat) : Int)) (by decide +kernel) c
theorem u8_lo4 (c : UInt8) : bitAnd .u8 (c.toNat : Int) 15 = ((c.toNat % 16 : Nat) : Int):=u8_all (p:=fun c=>bitAnd .u8 (c.toNat : Int) 15 = ((c.toNat % 16 : Nat) : Int)) (by decide +kernel) c
theorem hexB_succ (s : Byt) (i : Nat) (h : i < s.length) : hexB (s.take (i + 1)) = hexB (s.take i) ++ [hexC ((s.getD i 0).toNat / 16),hexC ((s.getD i 0).toNat % 16)]:=by
 rw [List.take_succ_eq_append_getElem h]
 simp only [hexB,List.flatMap_append,List.flatMap_cons,List.flatMap_nil,List.append_nil,List.getD,List.getElem?_eq_getElem h,Option.getD_some]
/-! ### equal bytes -/
theorem tw_lt {p : UInt8 → Bool} : ∀ (l : Byt) (n : Nat),n ≤ (l.takeWhile p).length → (n < (l.takeWhile p).length ↔ n < l.length ∧ p (l.getD n 0) = true)
 | [],n,_=>by simp
 | c :: l,n,h=>by
  rw [List.takeWhile_cons] at h ⊢
  by_cases hp : p c = true
  ·rw [if_pos hp] at h ⊢
   cases n with
   | zero=>simp [hp]
   | succ n =>
    have:=tw_lt l n (by simpa using h)
    simpa using this
  ·rw [if_neg hp] at h ⊢
   have hn : n = 0:=by simpa using h
   subst hn
   simp [hp]
theorem alike_lt {s : Byt} {n : Nat} (hs : s ≠ []) (h : n ≤ alikeN s) : (n < alikeN s ↔ n < 128 ∧ n < s.length ∧ s.getD n 0 = s.getD 0 0):=by
 cases s with
 | nil=>exact absurd rfl hs
 | cons c t =>
  rw [alikeN_cons] at h ⊢
  have:=tw_lt (p:=(· == c)) (c :: t) n (by omega)
  simp only [beq_iff_eq] at this
  rw [List.getD_cons_zero]
  constructor
  ·intro q
   exact ⟨by omega,this.1 (by omega)⟩
  ·intro q
   have:=this.2 q.2
   omega
end Aw

namespace Go.Proofs
open Go Aw
@[go_sem] theorem ti1 : tinfo Tryd.prog 1 = some ⟨.func,1,8,some [.raw .nilFunc]⟩:=by kernel_rfl
@[go_sem] theorem ti2 : tinfo Tryd.prog 2 = some ⟨.int .i64,1,8,some [.int .i64 0]⟩:=by kernel_rfl
@[go_sem] theorem ti3 : tinfo Tryd.prog 3 = some ⟨.int .i64,1,8,some [.int .i64 0]⟩:=by kernel_rfl
@[go_sem] theorem ti4 : tinfo Tryd.prog 4 = some ⟨.bool,1,1,some [.bool false]⟩:=by kernel_rfl
@[go_sem] theorem ti5 : tinfo Tryd.prog 5 = some ⟨.int .u8,1,1,some [.int .u8 0]⟩:=by kernel_rfl
@[go_sem] theorem ti9 : tinfo Tryd.prog 9 = some ⟨.str,1,16,some [.str []]⟩:=by kernel_rfl
@[go_sem] theorem ti12 : tinfo Tryd.prog 12 = some ⟨.int .u64,1,8,some [.int .u64 0]⟩:=by kernel_rfl
@[go_sem] theorem ti13 : tinfo Tryd.prog 13 = some ⟨.struct [(0,9),(1,12)],2,24,some [.str [],.int .u64 0]⟩:=by kernel_rfl
@[go_sem high] theorem bl13 : blist Tryd.prog 13 = some [(0,1),(1,1)]:=by kernel_rfl
@[go_sem] theorem ti20 : tinfo Tryd.prog 20 = some ⟨.iface,1,16,some [.raw .nilIface]⟩:=by kernel_rfl
@[go_sem] theorem ti21 : tinfo Tryd.prog 21 = some ⟨.int .i32,1,4,some [.int .i32 0]⟩:=by kernel_rfl
@[go_sem] theorem ti22 : tinfo Tryd.prog 22 = some ⟨.func,1,8,some [.raw .nilFunc]⟩:=by kernel_rfl
@[go_sem] theorem ti23 : tinfo Tryd.prog 23 = some ⟨.int .i64,1,8,some [.int .i64 0]⟩:=by kernel_rfl
@[go_sem] theorem ti25 : tinfo Tryd.prog 25 = some ⟨.func,1,8,some [.raw .nilFunc]⟩:=by kernel_rfl
@[go_sem] theorem ti26 : tinfo Tryd.prog 26 = some ⟨.func,1,8,some [.raw .nilFunc]⟩:=by kernel_rfl
@[go_sem] theorem ti27 : tinfo Tryd.prog 27 = some ⟨.func,1,8,some [.raw .nilFunc]⟩:=by kernel_rfl
@[go_sem] theorem ti28 : tinfo Tryd.prog 28 = some ⟨.func,1,8,some [.raw .nilFunc]⟩:=by kernel_rfl
@[go_sem] theorem ti29 : tinfo Tryd.prog 29 = some ⟨.slice 5,1,24,some [.raw (.slice none 0 0)]⟩:=by kernel_rfl
@[go_sem] theorem ti30 : tinfo Tryd.prog 30 = some ⟨.func,1,8,some [.raw .nilFunc]⟩:=by kernel_rfl
@[go_sem] theorem ti31 : tinfo Tryd.prog 31 = some ⟨.func,1,8,some [.raw .nilFunc]⟩:=by kernel_rfl
@[go_sem] theorem ti32 : tinfo Tryd.prog 32 = some ⟨.func,1,8,some [.raw .nilFunc]⟩:=by kernel_rfl
@[go_sem] theorem ti33 : tinfo Tryd.prog 33 = some ⟨.ptr 72,1,8,some [.raw (.pointer none)]⟩:=by kernel_rfl
@[go_sem] theorem ti34 : tinfo Tryd.prog 34 = some ⟨.func,1,8,some [.raw .nilFunc]⟩:=by kernel_rfl
@[go_sem] theorem ti35 : tinfo Tryd.prog 35 = some ⟨.func,1,8,some [.raw .nilFunc]⟩:=by kernel_rfl
@[go_sem] theorem ti36 : tinfo Tryd.prog 36 = some ⟨.func,1,8,some [.raw .nilFunc]⟩:=by kernel_rfl
@[go_sem] theorem ti37 : tinfo Tryd.prog 37 = some ⟨.func,1,8,some [.raw .nilFunc]⟩:=by kernel_rfl
@[go_sem] theorem ti38 : tinfo Tryd.prog 38 = some ⟨.func,1,8,some [.raw .nilFunc]⟩:=by kernel_rfl
@[go_sem] theorem ti39 : tinfo Tryd.prog 39 = some ⟨.arr 5 5,5,5,some [.int .u8 0,.int .u8 0,.int .u8 0,.int .u8 0,.int .u8 0]⟩:=by kernel_rfl
@[go_sem high] theorem bl39 : blist Tryd.prog 39 = some [(0,1),(1,1),(2,1),(3,1),(4,1)]:=by kernel_rfl
@[go_sem] theorem ti40 : tinfo Tryd.prog 40 = some ⟨.struct [(0,39),(5,3)],6,16,some [.int .u8 0,.int .u8 0,.int .u8 0,.int .u8 0,.int .u8 0,.int .i64 0]⟩:=by kernel_rfl
@[go_sem high] theorem bl40 : blist Tryd.prog 40 = some [(0,5),(5,1)]:=by kernel_rfl
@[go_sem] theorem ti41 : tinfo Tryd.prog 41 = some ⟨.struct [(0,39),(5,3)],6,16,some [.int .u8 0,.int .u8 0,.int .u8 0,.int .u8 0,.int .u8 0,.int .i64 0]⟩:=by kernel_rfl
@[go_sem high] theorem bl41 : blist Tryd.prog 41 = some [(0,5),(5,1)]:=by kernel_rfl
@[go_sem] theorem ti42 : tinfo Tryd.prog 42 = some ⟨.func,1,8,some [.raw .nilFunc]⟩:=by kernel_rfl
@[go_sem] theorem ti43 : tinfo Tryd.prog 43 = some ⟨.func,1,8,some [.raw .nilFunc]⟩:=by kernel_rfl
@[go_sem] theorem ti44 : tinfo Tryd.prog 44 = some ⟨.ptr 41,1,8,some [.raw (.pointer none)]⟩:=by kernel_rfl
@[go_sem] theorem ti45 : tinfo Tryd.prog 45 = some ⟨.func,1,8,some [.raw .nilFunc]⟩:=by kernel_rfl
@[go_sem] theorem ti46 : tinfo Tryd.prog 46 = some ⟨.int .u64,1,8,some [.int .u64 0]⟩:=by kernel_rfl
@[go_sem] theorem ti47 : tinfo Tryd.prog 47 = some ⟨.func,1,8,some [.raw .nilFunc]⟩:=by kernel_rfl
@[go_sem] theorem ti48 : tinfo Tryd.prog 48 = some ⟨.func,1,8,some [.raw .nilFunc]⟩:=by kernel_rfl
@[go_sem] theorem ti49 : tinfo Tryd.prog 49 = some ⟨.func,1,8,some [.raw .nilFunc]⟩:=by kernel_rfl
@[go_sem] theorem ti50 : tinfo Tryd.prog 50 = some ⟨.ptr 52,1,8,some [.raw (.pointer none)]⟩:=by kernel_rfl
@[go_sem] theorem ti51 : tinfo Tryd.prog 51 = some ⟨.struct [(0,50),(1,29)],2,32,some [.raw (.pointer none),.raw (.slice none 0 0)]⟩:=by kernel_rfl
@[go_sem high] theorem bl51 : blist Tryd.prog 51 = some [(0,1),(1,1)]:=by kernel_rfl
@[go_sem] theorem ti52 : tinfo Tryd.prog 52 = some ⟨.struct [(0,50),(1,29)],2,32,some [.raw (.pointer none),.raw (.slice none 0 0)]⟩:=by kernel_rfl
@[go_sem high] theorem bl52 : blist Tryd.prog 52 = some [(0,1),(1,1)]:=by kernel_rfl
@[go_sem] theorem ti53 : tinfo Tryd.prog 53 = some ⟨.func,1,8,some [.raw .nilFunc]⟩:=by kernel_rfl
@[go_sem] theorem ti54 : tinfo Tryd.prog 54 = some ⟨.func,1,8,some [.raw .nilFunc]⟩:=by kernel_rfl
@[go_sem] theorem ti55 : tinfo Tryd.prog 55 = some ⟨.func,1,8,some [.raw .nilFunc]⟩:=by kernel_rfl
@[go_sem] theorem ti56 : tinfo Tryd.prog 56 = some ⟨.arr 4 5,4,4,some [.int .u8 0,.int .u8 0,.int .u8 0,.int .u8 0]⟩:=by kernel_rfl
@[go_sem high] theorem bl56 : blist Tryd.prog 56 = some [(0,1),(1,1),(2,1),(3,1)]:=by kernel_rfl
@[go_sem] theorem ti57 : tinfo Tryd.prog 57 = some ⟨.iface,1,16,some [.raw .nilIface]⟩:=by kernel_rfl
@[go_sem] theorem ti58 : tinfo Tryd.prog 58 = some ⟨.iface,1,16,some [.raw .nilIface]⟩:=by kernel_rfl
@[go_sem] theorem ti59 : tinfo Tryd.prog 59 = some ⟨.func,1,8,some [.raw .nilFunc]⟩:=by kernel_rfl
@[go_sem] theorem ti60 : tinfo Tryd.prog 60 = some ⟨.int .u64,1,8,some [.int .u64 0]⟩:=by kernel_rfl
@[go_sem] theorem ti61 : tinfo Tryd.prog 61 = some ⟨.slice 46,1,24,some [.raw (.slice none 0 0)]⟩:=by kernel_rfl
@[go_sem] theorem ti62 : tinfo Tryd.prog 62 = some ⟨.arr 5 46,5,40,some [.int .u64 0,.int .u64 0,.int .u64 0,.int .u64 0,.int .u64 0]⟩:=by kernel_rfl
@[go_sem high] theorem bl62 : blist Tryd.prog 62 = some [(0,1),(1,1),(2,1),(3,1),(4,1)]:=by kernel_rfl
@[go_sem] theorem ti63 : tinfo Tryd.prog 63 = some ⟨.func,1,8,some [.raw .nilFunc]⟩:=by kernel_rfl
@[go_sem] theorem ti64 : tinfo Tryd.prog 64 = some ⟨.func,1,8,some [.raw .nilFunc]⟩:=by kernel_rfl
@[go_sem] theorem ti65 : tinfo Tryd.prog 65 = some ⟨.func,1,8,some [.raw .nilFunc]⟩:=by kernel_rfl
@[go_sem] theorem ti67 : tinfo Tryd.prog 67 = some ⟨.func,1,8,some [.raw .nilFunc]⟩:=by kernel_rfl
@[go_sem] theorem ti68 : tinfo Tryd.prog 68 = some ⟨.func,1,8,some [.raw .nilFunc]⟩:=by kernel_rfl
@[go_sem] theorem ti69 : tinfo Tryd.prog 69 = some ⟨.struct [(0,23)],1,8,some [.int .i64 0]⟩:=by kernel_rfl
@[go_sem high] theorem bl69 : blist Tryd.prog 69 = some [(0,1)]:=by kernel_rfl
@[go_sem] theorem ti70 : tinfo Tryd.prog 70 = some ⟨.struct [(0,23)],1,8,some [.int .i64 0]⟩:=by kernel_rfl
@[go_sem high] theorem bl70 : blist Tryd.prog 70 = some [(0,1)]:=by kernel_rfl
@[go_sem] theorem ti71 : tinfo Tryd.prog 71 = some ⟨.struct [(0,29),(1,3)],2,32,some [.raw (.slice none 0 0),.int .i64 0]⟩:=by kernel_rfl
@[go_sem high] theorem bl71 : blist Tryd.prog 71 = some [(0,1),(1,1)]:=by kernel_rfl
@[go_sem] theorem ti72 : tinfo Tryd.prog 72 = some ⟨.struct [(0,29),(1,3)],2,32,some [.raw (.slice none 0 0),.int .i64 0]⟩:=by kernel_rfl
@[go_sem high] theorem bl72 : blist Tryd.prog 72 = some [(0,1),(1,1)]:=by kernel_rfl
@[go_sem] theorem ti73 : tinfo Tryd.prog 73 = some ⟨.func,1,8,some [.raw .nilFunc]⟩:=by kernel_rfl
@[go_sem] theorem ti75 : tinfo Tryd.prog 75 = some ⟨.func,1,8,some [.raw .nilFunc]⟩:=by kernel_rfl
@[go_sem] theorem ti76 : tinfo Tryd.prog 76 = some ⟨.func,1,8,some [.raw .nilFunc]⟩:=by kernel_rfl
@[go_sem] theorem ti77 : tinfo Tryd.prog 77 = some ⟨.func,1,8,some [.raw .nilFunc]⟩:=by kernel_rfl
@[go_sem] theorem ti78 : tinfo Tryd.prog 78 = some ⟨.func,1,8,some [.raw .nilFunc]⟩:=by kernel_rfl
@[go_sem] theorem ti79 : tinfo Tryd.prog 79 = some ⟨.ptr 5,1,8,some [.raw (.pointer none)]⟩:=by kernel_rfl
@[go_sem] theorem ti80 : tinfo Tryd.prog 80 = some ⟨.int .u32,1,4,some [.int .u32 0]⟩:=by kernel_rfl
@[go_sem] theorem ti82 : tinfo Tryd.prog 82 = some ⟨.func,1,8,some [.raw .nilFunc]⟩:=by kernel_rfl
@[go_sem] theorem ti84 : tinfo Tryd.prog 84 = some ⟨.func,1,8,some [.raw .nilFunc]⟩:=by kernel_rfl
@[go_sem] theorem ti87 : tinfo Tryd.prog 87 = some ⟨.func,1,8,some [.raw .nilFunc]⟩:=by kernel_rfl
end Go.Proofs

namespace Aw
open Go
theorem FnP.ofBelow {P : Program} {gl : List (Nat × AV)} {f : FuncId} {xs : List AV} {y : AV} (hen : Aw.enters P f)
  (h : ∀ m vs,Start m gl → RepL m 1 xs vs → Calls P f vs.toArray m.w fun e w'=>(∃ v,e = .returned v ∧ ∀ m,Rep m 2 y v) ∧ RowKit.Below m.w.heap.size m.w w') : FnP P gl f xs fun r=>r = .ret y:=by
 refine ⟨hen,fun m vs hm hv=>(h m vs hm hv).mono ?_⟩
 rintro e w' ⟨⟨v,rfl,hy⟩,hb⟩
 have hblk : ∀ b,b < m.w.heap.size → w'.heap[b]? = m.w.heap[b]?:=hb.block
 refine ⟨{ m with w:=w' },.ret y,rfl,⟨hb.os,hb.tape,hb.output,hb.size,rfl,fun b hp=>hblk b (hm.Pold b hp),fun _ _ h=>h,fun b o hf=>Aw.cell?_of_block (hblk b (hm.Fold b o hf)),fun _ _ _ h=>h,rfl,fun _ _ _ h=>h⟩,
  fun b o hf=>Nat.lt_of_lt_of_le (hm.Fold b o hf) hb.size,⟨v,rfl,hy _⟩,rfl⟩
end Aw
namespace Go.Proofs
open Go Aw
set_option linter.unusedSimpArgs false
set_option linter.unusedVariables false
set_option maxRecDepth 100000
set_option maxHeartbeats 4000000
attribute [local go_sem] u8_hi4 u8_lo4
theorem c_strings_IndexByte (gl : List (Nat × AV)) (s : List UInt8) (c : Int) : FnP Tryd.prog gl 46 [.str s,.int .u8 c] fun r=>r = .ret (.int .i64 (Lib.indexByte s c.toNat.toUInt8)):=by
 refine FnP.same (enters_of Tryd.func46 rfl rfl) ?_
 intro m vs _ hv
 simp only [RepL,Rep] at hv
 obtain ⟨_,_,rfl,rfl,_,_,rfl,rfl,rfl⟩:=hv
 refine (Tryd.strings_IndexByte ⟨s.toArray⟩ c m.w).mono ?_
 rintro e w' ⟨rfl,rfl⟩
 exact ⟨⟨_,rfl,fun m=>by simp only [Rep]⟩,rfl⟩
theorem c_strings_Repeat (gl : List (Nat × AV)) (s : List UInt8) (n : Nat) (h : s.length * n ≤ 140737488355328) (hn : n ≤ 9223372036854775807) : FnP Tryd.prog gl 35 [.str s,.int .i64 n] fun r=>r = .ret (.str (Lib.repeatL s n)):=by
 refine FnP.ofBelow (enters_of Tryd.func35 rfl rfl) ?_
 intro m vs _ hv
 simp only [RepL,Rep] at hv
 obtain ⟨_,_,rfl,rfl,_,_,rfl,rfl,rfl⟩:=hv
 refine (Tryd.strings_Repeat ⟨s.toArray⟩ n m.w hn (by simpa [ByteArray.size] using h)).mono ?_
 rintro e w' ⟨rfl,hb⟩
 exact ⟨⟨_,rfl,fun m=>by simp only [Rep]⟩,hb⟩
theorem c_octet_White (gl : List (Nat × AV)) (c : UInt8) : FnP Tryd.prog (gl) 23 [.int .u8 c.toNat] fun r=>r = .ret (.bool (whiteC c)):=by
 refine FnP.intro Tryd.func23 rfl rfl (by simp [Tryd.ntmps23]) ?_
 simp only [argEnv,Tryd.ntmps23,Tryd.results23]
 refine AW.rS ?_
 refine AW.rSC ?_
 refine awOps.cons (awGuard.c1 (c_strings_IndexByte _ _ _) ?_)
 refine awOps.rn ?_
 refine AW.rt ?_
 have e : decide (0 ≤ Lib.indexByte [0,9,10,12,13,32] ((c.toNat : Int)).toNat.toUInt8) = whiteC c:=u8_all (p:=fun c=>decide (0 ≤ Lib.indexByte [0,9,10,12,13,32] ((c.toNat : Int)).toNat.toUInt8) = whiteC c) (by decide +kernel) c
 rw [← e]
 rfl
theorem c_octet_Digit (gl : List (Nat × AV)) (c : UInt8) : FnP Tryd.prog (gl) 22 [.int .u8 c.toNat] fun r=>r = .ret (.int .i64 (digI c)):=by
 refine FnP.intro Tryd.func22 rfl rfl (by simp [Tryd.ntmps22]) ?_
 simp only [argEnv,Tryd.ntmps22,Tryd.results22]
 have hc:=u8_le c
 refine AW.rS ?_
 refine AW.seq ?_
 refine AW.block ?_
 refine AW.rS ?_
 refine AW.c2 ?_ ?_
 ·intro h5
  refine AW.rS ?_
  refine AW.rt ?_
  rw [digI_d h5.1 h5.2]
 ·intro h5
  refine AW.rS ?_
  refine AW.c2 ?_ ?_
  ·intro h10
   refine AW.rS ?_
   refine AW.rt ?_
   rw [digI_u h10.1 h10.2]
   congr 2
   omega
  ·intro h10
   refine AW.rS ?_
   refine AW.c2 ?_ ?_
   ·intro h15
    refine AW.rS ?_
    refine AW.rt ?_
    rw [digI_l h15.1 h15.2]
    congr 2
    omega
   ·intro h15
    refine AW.skip ?_
    refine AW.rS ?_
    refine AW.rt ?_
    rw [digI_n (by omega) (by omega) (by omega)]
theorem c_octet_Hex (gl : List (Nat × AV)) (s : List UInt8) (hs : s.length ≤ 1000000:=by first | omega | exact u8_le _ | assumption | (simp; done) | (simp; omega)) : FnP Tryd.prog (gl) 36 [.str s] fun r=>r = .ret (.str (hexB s)):=by
 refine FnP.intro Tryd.func36 rfl rfl (by simp [Tryd.ntmps36]) ?_
 simp only [argEnv,Tryd.ntmps36,Tryd.results36]
 refine AW.rS ?_
 refine AW.rS ?_
 refine AW.seq ?_
 refine AW.rS ?_
 refine AW.block ?_
 refine AW.lk (S:={ i : Nat // i ≤ s.length }) [0,10] (fun s_=>[(3,.row 0 0 (hexB (s.take s_.1)).length),(11,.int .i64 s_.1)]) (fun s_=>[(0,.row 1 (bytesAV (hexB (s.take s_.1))) true)]) 1 (fun s_=>s.length - s_.1) ⟨0,Nat.zero_le _⟩ ?_ ?_
 ·refine St.le.vw [0]
 rintro ⟨i,hi⟩
 try dsimp only at hi
 refine AW.rS ?_
 refine AW.seq ?_
 refine AW.c2 ?_ ?_
 ·intro h9
  have hl:=hexB_len (s.take i)
  have hl2 : (s.take i).length = i:=by simp; omega
  have hb:=(s.getD i 0).toNat_lt
  refine AW.skip ?_
  refine AW.seq ?_
  refine AW.block ?_
  refine AW.rS ?_
  refine AW.dL [(0,0),(1,0),(2,0),(3,0),(4,0),(5,0),(6,0),(7,0),(8,0),(9,0),(10,0),(11,2),(12,2),(13,0)] ?_
  refine AW.rL ?_
  have hl3:=hexB_len (s.take (i + 1))
  have hl4 : (s.take (i + 1)).length = i + 1:=by simp; omega
  refine ⟨⟨i + 1,h9⟩,?_,?_⟩
  ·refine St.le.vx [2] ?_
   rw [hexB_succ s i h9,← digs_hi,← digs_lo,bB_append] <;> rfl
  ·simp only []; omega
 ·intro h9
  refine AW.exit ?_
  refine AW.rS ?_
  refine AW.rt ?_
  rw [List.take_of_length_le (by omega)]
theorem c_ascii_Hex (gl : List (Nat × AV)) (s : List UInt8) (hs : s.length ≤ 1000000:=by first | omega | exact u8_le _ | assumption | (simp; done) | (simp; omega)) : FnP Tryd.prog (gl) 14 [.str s] fun r=>r = .ret (.str (hexE s)):=by
 refine FnP.intro Tryd.func14 rfl rfl (by simp [Tryd.ntmps14]) ?_
 simp only [argEnv,Tryd.ntmps14,Tryd.results14]
 refine AW.rS ?_
 refine AW.rSC ?_
 refine awOps.cons (awGuard.c1 (c_octet_Hex _ s) ?_)
 have hl:=hexB_len s
 refine awOps.rn ?_
 refine AW.rt ?_
 rfl
theorem c_ascii_alike (gl : List (Nat × AV)) (s : List UInt8) (hs : s.length ≤ 16777216:=by first | omega | exact u8_le _ | assumption | (simp; done) | (simp; omega)) (hne : s ≠ []) : FnP Tryd.prog (gl) 42 [.str s] fun r=>r = .ret (.int .i64 (alikeN s)):=by
 refine FnP.intro Tryd.func42 rfl rfl (by simp [Tryd.ntmps42]) ?_
 simp only [argEnv,Tryd.ntmps42,Tryd.results42]
 have hlp : 0 < s.length:=List.length_pos_iff.2 hne
 refine AW.rS ?_
 refine AW.rS ?_
 refine AW.seq ?_
 refine AW.block ?_
 refine AW.lk (S:={ i : Nat // i ≤ alikeN s }) [0] (fun s_=>[(3,.int .i64 s_.1)]) (fun s_=>[]) 0 (fun s_=>alikeN s - s_.1) ⟨0,Nat.zero_le _⟩ ?_ ?_
 ·refine St.le.vw []
 rintro ⟨i,hi⟩
 try dsimp only at hi
 refine AW.seq ?_
 have hal:=alikeN_le s
 have hst:=alike_lt hne hi
 refine AW.dS [(0,0),(1,0),(2,1),(3,0),(4,0),(5,0),(6,0),(7,0),(8,0),(9,0),(10,0),(11,0),(12,0)] ?_
 refine AW.c2 ?_ ?_
 ·intro h8
  refine AW.skip ?_
  refine AW.block ?_
  refine AW.rL ?_
  refine ⟨⟨i + 1,by show i + 1 ≤ alikeN s; have:=hst.2 ⟨by omega,by omega,by rw [← UInt8.toNat_inj]; omega⟩; omega⟩,?_,?_⟩
  ·refine St.le.vw []
  ·have:=hst.2 ⟨by omega,by omega,by rw [← UInt8.toNat_inj]; omega⟩; show alikeN s - (i + 1) < alikeN s - i; omega
 ·intro h8
  refine AW.exit ?_
  refine AW.rS ?_
  refine AW.rt ?_
  have : ¬ i < alikeN s:=fun q=>by
   obtain ⟨q1,q2,q3⟩:=hst.1 q
   rw [q3] at h8
   omega
  congr 2
  omega
end Go.Proofs

namespace Aw
open Go
def errI : AErr → Int
 | .ok=>0
 | .arg=>1
 | .form=>3
 | .ending=>4
 | .long=>5
def hiI : Option Nat → Int
 | none=>-1
 | some d=>d
theorem hiI_none : hiI none = -1:=rfl
theorem hiI_some (d : Nat) : hiI (some d) = (d : Int):=rfl
def hiOk (h : Option Nat) : Prop:=∀ d,h = some d → d ≤ 15
theorem hiI_bd {h : Option Nat} (hh : hiOk h) : -1 ≤ hiI h ∧ hiI h ≤ 15:=by
 cases h with
 | none=>exact ⟨Int.le_refl _,by decide⟩
 | some d=>have:=hh d rfl; exact ⟨by show -1 ≤ (d : Int); omega,by show (d : Int) ≤ 15; omega⟩
theorem hiOk_none : hiOk none:=fun _ h=>by cases h
theorem hiOk_dig (c : UInt8) : hiOk (some (digI c).toNat):=fun d h=>by
 have:=digI_bd c
 cases h
 omega
theorem s_drop (s : Byt) (i : Nat) (h : i < s.length) : s.drop i = s.getD i 0 :: s.drop (i + 1):=by
 rw [List.drop_eq_getElem_cons h]
 simp [List.getD,h]
theorem u8_eq {c d : UInt8} (h : (c.toNat : Int) = (d.toNat : Int)) : c = d:=by
 rw [← UInt8.toNat_inj]
 omega
theorem u8_ne {c d : UInt8} (h : ¬ (c.toNat : Int) = (d.toNat : Int)) : c ≠ d:=fun e=>h (by rw [e])
theorem bB_snoc (out : Byt) {k : Int} (h0 : 0 ≤ k) (h1 : k ≤ 255) : bytesAV out ++ [[.int .u8 k]] = bytesAV (out ++ [UInt8.ofNat k.toNat]):=by
 simp only [bytesAV,List.map_append,List.map_cons,List.map_nil]
 congr 4
 rw [UInt8.toNat_ofNat']
 omega
theorem unhexS_end (M : Nat) (s : Byt) (h : Option Nat) (out : Byt) : unhexS M (62 :: s) h out = match h with
  | none=>(out,.ok)
  | some d=>if out.length + 1 ≤ M then (out ++ [UInt8.ofNat (16 * d)],.ok) else ([],.long):=by
 conv=>lhs; rw [unhexS.eq_def]
 simp only []
 rw [if_neg (by decide),if_pos trivial] <;> cases h <;> rfl
theorem unhexS_dig (M : Nat) {c : UInt8} (s : Byt) (h : Option Nat) (out : Byt) (hw : whiteC c = false) (hc : c ≠ 62) : unhexS M (c :: s) h out = match digC c with
  | none=>([],.form)
  | some d=>match h with
   | none=>unhexS M s (some d) out
   | some h=>if out.length + 1 ≤ M then unhexS M s none (out ++ [UInt8.ofNat (16 * h + d)]) else ([],.long):=by
 conv=>lhs; rw [unhexS.eq_def]
 simp only []
 rw [if_neg (by rw [hw]; decide),if_neg hc] <;> cases digC c <;> cases h <;> rfl
section
variable {M : Nat} {s : Byt} {i : Nat} {h : Option Nat} {out : Byt}
theorem ux_white (hi : i < s.length) (hw : whiteC (s.getD i 0) = true) : unhexS M (s.drop i) h out = unhexS M (s.drop (i + 1)) h out:=by
 rw [s_drop s i hi,unhexS_white hw]
theorem ux_end (hi : i < s.length) (hc : ((s.getD i 0).toNat : Int) = 62) : unhexS M (s.drop i) h out =
  if hiI h < 0 then (out,.ok) else if (M : Int) ≤ out.length then ([],.long) else (out ++ [UInt8.ofNat (16 * hiI h).toNat],.ok):=by
 have hc' : s.getD i 0 = 62:=u8_eq (d:=62) hc
 rw [s_drop s i hi,hc',unhexS_end]
 cases h with
 | none=>rw [if_pos (by decide)]
 | some d =>
  show (if out.length + 1 ≤ M then (out ++ [UInt8.ofNat (16 * d)],AErr.ok) else ([],.long)) = if (d : Int) < 0 then _ else if (M : Int) ≤ out.length then _ else (out ++ [UInt8.ofNat (16 * (d : Int)).toNat],AErr.ok)
  rw [if_neg (show ¬ (d : Int) < 0 by omega),show (16 * (d : Int)).toNat = 16 * d by omega]
  by_cases hm : out.length + 1 ≤ M
  ·rw [if_pos hm,if_neg (by omega)]
  ·rw [if_neg hm,if_pos (by omega)]
theorem ux_form (hi : i < s.length) (hw : whiteC (s.getD i 0) = false) (hc : ¬ ((s.getD i 0).toNat : Int) = 62) (hd : digI (s.getD i 0) < 0) : unhexS M (s.drop i) h out = ([],.form):=by
 rw [s_drop s i hi,unhexS_dig M _ h out hw (u8_ne (d:=62) hc),digI_neg hd]
theorem ux_first (hi : i < s.length) (hw : whiteC (s.getD i 0) = false) (hc : ¬ ((s.getD i 0).toNat : Int) = 62) (hd : 0 ≤ digI (s.getD i 0)) (hh : hiI h < 0) : unhexS M (s.drop i) h out = unhexS M (s.drop (i + 1)) (some (digI (s.getD i 0)).toNat) out:=by
 cases h with
 | some d=>simp only [hiI] at hh; omega
 | none=>rw [s_drop s i hi,unhexS_dig M _ _ out hw (u8_ne (d:=62) hc),digI_pos hd]
theorem ux_next (hi : i < s.length) (hw : whiteC (s.getD i 0) = false) (hc : ¬ ((s.getD i 0).toNat : Int) = 62) (hd : 0 ≤ digI (s.getD i 0)) (hh : 0 ≤ hiI h) : unhexS M (s.drop i) h out =
  if (M : Int) ≤ out.length then ([],.long) else unhexS M (s.drop (i + 1)) none (out ++ [UInt8.ofNat (16 * hiI h + digI (s.getD i 0)).toNat]):=by
 cases h with
 | none=>simp only [hiI] at hh; omega
 | some d =>
  rw [s_drop s i hi,unhexS_dig M _ _ out hw (u8_ne (d:=62) hc),digI_pos hd]
  show (if out.length + 1 ≤ M then unhexS M (s.drop (i + 1)) none (out ++ [UInt8.ofNat (16 * d + (digI (s.getD i 0)).toNat)]) else _) = if (M : Int) ≤ out.length then _ else unhexS M (s.drop (i + 1)) none (out ++ [UInt8.ofNat (16 * (d : Int) + digI (s.getD i 0)).toNat])
  rw [show (16 * (d : Int) + digI (s.getD i 0)).toNat = 16 * d + (digI (s.getD i 0)).toNat by omega]
  by_cases hm : out.length + 1 ≤ M
  ·rw [if_pos hm,if_neg (by omega)]
  ·rw [if_neg hm,if_pos (by omega)]
theorem ux_done (hi : ¬ i < s.length) : unhexS M (s.drop i) h out = ([],.ending):=by
 rw [List.drop_eq_nil_of_le (by omega)]
 rfl
end
theorem ux_fail : ∀ (M : Nat) (s : Byt) (h : Option Nat) (out : Byt),¬ (unhexS M s h out).2 = .ok → (unhexS M s h out).1 = []
 | M,[],h,out=>by simp [unhexS]
 | M,c :: s,h,out=>by
  unfold unhexS
  split
  ·exact ux_fail M s h out
  ·split
   ·split
    ·simp
    ·split <;> simp
   ·split
    ·simp
    ·split
     ·exact ux_fail M s _ out
     ·split
      ·exact ux_fail M s _ _
      ·simp
end Aw

namespace Go.Proofs
open Go Aw
set_option linter.unusedSimpArgs false
set_option linter.unusedVariables false
set_option maxRecDepth 100000
set_option maxHeartbeats 4000000
attribute [local go_sem] hiI_none hiI_some
end Go.Proofs

namespace Aw
theorem bB_single {k : Int} (h0 : 0 ≤ k) (h1 : k ≤ 255) : [[AV.int .u8 k]] = bytesAV [UInt8.ofNat k.toNat]:=bB_snoc [] h0 h1
end Aw
namespace Go.Proofs
open Go Aw
set_option linter.unusedSimpArgs false
set_option linter.unusedVariables false
set_option maxRecDepth 100000
set_option maxHeartbeats 4000000
attribute [local go_sem] hiI_none hiI_some bytesAV_append List.length_append
theorem c_ascii_need (gl : List (Nat × AV)) (b : Bool) (e : Int) : FnP Tryd.prog (gl) 25 [.bool b,.int .i64 e] fun r=>r = if b = true then .ret (.tup []) else .panic (.iface 70 (.agg [.int .i64 e])):=by
 refine FnP.intro Tryd.func25 rfl rfl (by simp [Tryd.ntmps25]) ?_
 simp only [argEnv,Tryd.ntmps25,Tryd.results25]
 refine AW.rS ?_
 refine AW.c2 ?_ ?_
 ·intro h2
  refine AW.rLC ?_
  refine awOps.cons (awGuard.pn ?_)
  refine wk ?_
  rw [h2] <;> rfl
 ·intro h2
  refine AW.skip ?_
  refine wk ?_
  rw [h2] <;> rfl
theorem h_put_r (gl : List (Nat × AV)) (out b : List UInt8) (M : Nat) (h : out.length ≤ 16777216) (hb : b.length ≤ 16777216) : FnK Tryd.prog (gl) 24 [.ptr 0 0,.row 2 0 b.length] ([(0,.cells [.row 1 0 out.length,.int .i64 M]),(1,.row 1 (bytesAV out) true),(2,.row 1 (bytesAV b) true)]) 3 1 (fun r h n=>((out.length + b.length ≤ M) ∧ r = .ret (.tup []) ∧ h = [(0,.cells [.row 1 0 (out ++ b).length,.int .i64 M]),(1,.row 1 (bytesAV (out ++ b)) true)] ∧ n = 2) ∨ (¬ (out.length + b.length ≤ M) ∧ r = .panic (.iface 70 (.agg [.int .i64 5])) ∧ 1 ≤ n)):=by
 refine FnK.intro Tryd.func24 rfl rfl (by simp [Tryd.ntmps24]) ?_
 simp only [argEnv,Tryd.ntmps24,Tryd.results24]
 refine AW.tGC (C:=out.length + b.length ≤ M) (σf:=?sf) (.take 0 0 (.take 1 0 (.take 2 0 (.take 5 0 (.take 6 0 (.take 8 0 (.take 9 0 (.take 10 0 (.take 3 2 (.take 4 0 (.take 7 0 (.take 11 2 (.take 12 0 (.fork 13 .done .stop)))))))))))))) ?tree ?rest
 case tree =>
  iterate 13 (refine awTree.tk ?_)
  refine awTree.fM (c_ascii_need _ _ 5) ?_ ?_ ?_
  ·intro hp2
   refine wk ?_
   first | exact .inr ⟨by omega,rfl,by omega⟩ | omega
  ·intro hm2
   exact awTree.dnC (by omega)
  ·exact trivial
 case rest =>
 intro hm2
 skip
 skip
 refine AW.fin2 ?_
 refine AW.rL ?_
 refine ⟨.inl rfl,⟨27,[],[(0,.cells [.row 1 0 (out ++ b).length,.int .i64 M]),(1,.row 1 (bytesAV (out ++ b)) true)],2,gl,1,[]⟩,St.le.vw [0,3],?_⟩
 refine wk ?_
 first | exact .inl ⟨by omega,rfl,rfl,rfl⟩ | omega
theorem h_put_s (gl : List (Nat × AV)) (out b : List UInt8) (M : Nat) (h : out.length ≤ 16777216) (hb : b.length ≤ 16777216) : FnK Tryd.prog (gl) 24 [.ptr 0 0,.sl (bytesAV b)] ([(0,.cells [.row 1 0 out.length,.int .i64 M]),(1,.row 1 (bytesAV out) true)]) 2 1 (fun r h n=>((out.length + b.length ≤ M) ∧ r = .ret (.tup []) ∧ h = [(0,.cells [.row 1 0 (out ++ b).length,.int .i64 M]),(1,.row 1 (bytesAV (out ++ b)) true)] ∧ n = 2) ∨ (¬ (out.length + b.length ≤ M) ∧ r = .panic (.iface 70 (.agg [.int .i64 5])) ∧ 1 ≤ n)):=by
 refine FnK.intro Tryd.func24 rfl rfl (by simp [Tryd.ntmps24]) ?_
 simp only [argEnv,Tryd.ntmps24,Tryd.results24]
 refine AW.tGC (C:=out.length + b.length ≤ M) (σf:=?sf) (.take 0 0 (.take 1 0 (.take 2 0 (.take 5 0 (.take 6 0 (.take 8 0 (.take 9 0 (.take 10 0 (.take 3 2 (.take 4 0 (.take 7 0 (.take 11 2 (.take 12 0 (.fork 13 .done .stop)))))))))))))) ?tree ?rest
 case tree =>
  iterate 13 (refine awTree.tk ?_)
  refine awTree.fM (c_ascii_need _ _ 5) ?_ ?_ ?_
  ·intro hp2
   refine wk ?_
   first | exact .inr ⟨by omega,rfl,by omega⟩ | omega
  ·intro hm2
   exact awTree.dnC (by omega)
  ·exact trivial
 case rest =>
 intro hm2
 skip
 skip
 refine AW.fin2 ?_
 refine AW.rL ?_
 refine ⟨.inl rfl,⟨27,[],[(0,.cells [.row 1 0 (out ++ b).length,.int .i64 M]),(1,.row 1 (bytesAV (out ++ b)) true)],2,gl,1,[]⟩,St.le.vw [0,2],?_⟩
 refine wk ?_
 first | exact .inl ⟨by omega,rfl,rfl,rfl⟩ | omega
end Go.Proofs

namespace Go.Proofs
open Go Aw
set_option linter.unusedSimpArgs false
set_option linter.unusedVariables false
set_option maxRecDepth 100000
set_option maxHeartbeats 4000000
attribute [local irreducible] unhexS
attribute [local go_sem] hiI_none hiI_some bytesAV_append List.length_append
theorem h_Unhex1 (gl : List (Nat × AV)) (s : List UInt8) (M : Nat) (hs : s.length ≤ 16777216) (hM : M ≤ 1048576) : FnK Tryd.prog (gl) 21 [.str s,.ptr 0 0] ([(0,.cells [.row 1 0 0,.int .i64 M]),(1,.row 1 [] true)]) 2 1 (fun r h n=>(((unhexS M s none []).2 = .ok) ∧ r = .ret (.tup []) ∧ h = [(0,.cells [.row 1 0 (unhexS M s none []).1.length,.int .i64 M]),(1,.row 1 (bytesAV (unhexS M s none []).1) true)] ∧ n = 2) ∨ (¬ ((unhexS M s none []).2 = .ok) ∧ r = .panic (.iface 70 (.agg [.int .i64 (errI (unhexS M s none []).2)])) ∧ 1 ≤ n)):=by
 refine FnK.intro Tryd.func21 rfl rfl (by simp [Tryd.ntmps21]) ?_
 simp only [argEnv,Tryd.ntmps21,Tryd.results21]
 refine AW.rS ?_
 refine AW.seq ?_
 refine AW.rS ?_
 refine AW.block ?_
 refine AW.lk (S:={ p : Nat × Option Nat × List UInt8 // p.1 ≤ s.length ∧ hiOk p.2.1 ∧ p.2.2.length ≤ M ∧ unhexS M s none [] = unhexS M (s.drop p.1) p.2.1 p.2.2 }) [0,1,9] (fun s_=>[(4,.int .i64 (hiI s_.1.2.1)),(10,.int .i64 s_.1.1)]) (fun s_=>[(0,.cells [.row 1 0 s_.1.2.2.length,.int .i64 M]),(1,.row 1 (bytesAV s_.1.2.2) true)]) 2 (fun s_=>s.length - s_.1.1) ⟨(0,none,[]),Nat.zero_le _,hiOk_none,Nat.zero_le _,rfl⟩ ?_ ?_
 ·refine St.le.vw [0,1]
 rintro ⟨⟨i,hf,out⟩,hi,hok,hl,hsp⟩
 try dsimp only at hf
 try dsimp only at hi
 try dsimp only at hok
 try dsimp only at hl
 try dsimp only at hsp
 refine AW.rS ?_
 refine AW.seq ?_
 refine AW.c2 ?_ ?_
 ·intro h8
  have hbd:=hiI_bd hok
  have hdg:=digI_bd (s.getD i 0)
  refine AW.skip ?_
  refine AW.seq ?_
  refine AW.block ?_
  refine AW.rS ?_
  refine AW.rS ?_
  refine AW.rSC ?_
  refine awOps.cons (awGuard.c1 (c_octet_Digit _ (s.getD i 0)) ?_)
  refine awOps.rn ?_
  refine AW.block ?_
  refine AW.rSC ?_
  refine awOps.cons (awGuard.c1 (c_octet_White _ (s.getD i 0)) ?_)
  refine awOps.rn ?_
  refine AW.c2 ?_ ?_
  ·intro h21
   refine AW.skip ?_
   refine AW.rL ?_
   refine ⟨⟨(i + 1,hf,out),h8,hok,hl,hsp.trans (ux_white h8 h21)⟩,?_,?_⟩
   ·refine St.le.vw [0,1]
   ·simp only []; omega
  ·intro h21
   refine AW.rS ?_
   refine AW.c2 ?_ ?_
   ·intro h26
    refine AW.seq ?_
    refine AW.rS ?_
    refine AW.c2 ?_ ?_
    ·intro h29
     refine AW.rLC ?_
     rw [bB_single (k:=16 * hiI hf) (by omega) (by omega)]
     refine awOps.cons (awGuard.cKM 1 [0,1,2] (h_put_r _ out [UInt8.ofNat (16 * hiI hf).toNat] M (by omega) (by simp)) ?_ ?_)
     ·intro hp31 n31 hn31
      refine wk ?_
      have e:=hsp.trans ((ux_end h8 h26).trans ((if_neg (by omega)).trans (if_pos (by have : ¬ out.length + 1 ≤ M:=hp31; omega))))
      rw [e]
      first | exact .inr ⟨by decide,rfl,by omega⟩ | (simp [errI]; done) | (simp [errI]; omega)
     intro hm31
     refine awOps.rn ?_
     have e:=hsp.trans ((ux_end h8 h26).trans ((if_neg (by omega)).trans (if_neg (by have : out.length + 1 ≤ M:=hm31; omega))))
     refine AW.vw [0,3] [] [(0,.cells [.row 1 0 (out ++ [UInt8.ofNat (16 * hiI hf).toNat]).length,.int .i64 M]),(1,.row 1 (bytesAV (out ++ [UInt8.ofNat (16 * hiI hf).toNat])) true)] ?_
     refine AW.rt ?_
     rw [e]
     simp
    ·intro h29
     refine AW.skip ?_
     refine AW.rt ?_
     have e:=hsp.trans ((ux_end h8 h26).trans (if_pos (by omega)))
     rw [e]
     simp
   ·intro h26
    refine AW.rS ?_
    refine AW.c2 ?_ ?_
    ·intro h39
     refine AW.rLC ?_
     refine awOps.cons (awGuard.cM (c_ascii_need _ false 3) ?_ ?_)
     ·intro hp41
      refine wk ?_
      have e:=hsp.trans (ux_form h8 h21 h26 h39)
      rw [e]
      first | exact .inr ⟨by decide,rfl,by omega⟩ | (simp [errI]; done) | (simp [errI]; omega)
     intro hm41
     refine awOps.rn ?_
     refine AW.rL ?_
     exact absurd hm41 (by simp)
    ·intro h39
     refine AW.rS ?_
     refine AW.c2 ?_ ?_
     ·intro h46
      refine AW.rL ?_
      refine AW.rL ?_
      refine ⟨⟨(i + 1,some (digI (s.getD i 0)).toNat,out),h8,hiOk_dig _,hl,hsp.trans (ux_first h8 h21 h26 (by omega) h46)⟩,?_,?_⟩
      ·refine St.le.vw [0,1]
      ·simp only []; omega
     ·intro h46
      refine AW.rSC ?_
      rw [bB_single (k:=16 * hiI hf + digI (s.getD i 0)) (by omega) (by omega)]
      refine awOps.cons (awGuard.cKM 1 [0,1,2] (h_put_r _ out [UInt8.ofNat (16 * hiI hf + digI (s.getD i 0)).toNat] M (by omega) (by simp)) ?_ ?_)
      ·intro hp51 n51 hn51
       refine wk ?_
       have e:=hsp.trans ((ux_next h8 h21 h26 (by omega) (by omega)).trans (if_pos (by have : ¬ out.length + 1 ≤ M:=hp51; omega)))
       rw [e]
       first | exact .inr ⟨by decide,rfl,by omega⟩ | (simp [errI]; done) | (simp [errI]; omega)
      intro hm51
      refine awOps.rn ?_
      refine AW.rL ?_
      refine AW.rL ?_
      refine ⟨⟨(i + 1,none,out ++ [UInt8.ofNat (16 * hiI hf + digI (s.getD i 0)).toNat]),h8,hiOk_none,by simp; omega,hsp.trans ((ux_next h8 h21 h26 (by omega) (by omega)).trans (if_neg (by have : out.length + 1 ≤ M:=hm51; omega)))⟩,?_,?_⟩
      ·refine St.le.vw [0,3]
      ·simp only []; omega
 ·intro h8
  refine AW.exit ?_
  refine AW.rLC ?_
  refine awOps.cons (awGuard.cM (c_ascii_need _ false 4) ?_ ?_)
  ·intro hp58
   refine wk ?_
   have e:=hsp.trans (ux_done h8)
   rw [e]
   first | exact .inr ⟨by decide,rfl,by omega⟩ | (simp [errI]; done) | (simp [errI]; omega)
  intro hm58
  refine awOps.rn ?_
  refine wk ?_
  exact absurd hm58 (by simp)
end Go.Proofs

namespace Go.Proofs
open Go Aw
set_option linter.unusedSimpArgs false
set_option linter.unusedVariables false
set_option maxRecDepth 100000
set_option maxHeartbeats 4000000
attribute [local irreducible] unhexS unfiveS
attribute [local go_sem] List.length_append
theorem d_unpacked_ret (gl : List (Nat × AV)) (s0 : List UInt8) (e0 : Int) : FnD Tryd.prog gl 45 [.ptr 0 0,.ptr 1 0] [(0,.cells [.str s0]),(1,.cells [.int .i64 e0])] 2 .ret (fun u hp nx=>u = .ret ∧ hp = [(0,.cells [.str s0]),(1,.cells [.int .i64 e0])] ∧ nx = 2):=by
 refine FnD.intro Tryd.func45 rfl rfl (by simp [Tryd.ntmps45]) ?_
 simp only [argEnv,Tryd.ntmps45,Tryd.results45]
 refine AWD.seq (AWD.regRecover rfl rfl rfl rfl (by simp only [go_sem,seval]) ?_)
 refine awOps.rn ?_
 refine AWD.of ?_
 refine AW.block ?_
 refine AW.rS ?_
 refine AW.c2 ?_ ?_
 ·intro h4
  refine AW.rL ?_
  refine wk ?_
  trivial
 ·intro h4
  simp at h4
theorem d_unpacked_pan (gl : List (Nat × AV)) (e : Int) : FnD Tryd.prog gl 45 [.ptr 0 0,.ptr 1 0] [(0,.cells [.str []]),(1,.cells [.int .i64 0])] 2 (.pan (.iface 70 (.agg [.int .i64 e]))) (fun u hp nx=>u = .ret ∧ hp = [(0,.cells [.str []]),(1,.cells [.int .i64 e]),(2,.cells [.int .i64 e])] ∧ nx = 3):=by
 refine FnD.intro Tryd.func45 rfl rfl (by simp [Tryd.ntmps45]) ?_
 simp only [argEnv,Tryd.ntmps45,Tryd.results45]
 refine AWD.seq (AWD.regRecover rfl rfl rfl rfl (by simp only [go_sem,seval]) ?_)
 refine awOps.rn ?_
 refine AWD.of ?_
 refine AW.block ?_
 refine AW.rS ?_
 refine AW.c2 ?_ ?_
 ·intro h4
  simp at h4
 ·intro h4
  refine AW.rS ?_
  refine AW.c2 ?_ ?_
  ·intro h9
   refine AW.rS ?_
   refine AW.tGL (σf:=?sf7) (.take 0 0 (.fork 1 (.fork 2 (.fork 3 .done .stop) .stop) (.fork 2 (.take 1 2 (.fork 3 .done .stop)) .stop))) ?tree7 ?rest7 (hQ:=?hQ)
   case hQ=>repeat (first | refine Aw.PI.unblock ?_ | refine Aw.PI.andThen ?_ | exact fun _ _ _ _ _ _ _ _ _ h=>h.elim)
   case tree7=>repeat' (first | exact True.intro | refine awTree.tk ?_ | refine awTree.fA ?_ ?_ | exact awTree.dn)
   case rest7 =>
   refine wk ?_
   trivial
  ·intro h9
   simp at h9
theorem c_ascii_unpacked (gl : List (Nat × AV)) (s : List UInt8) (most : Int) (f : FuncId) (u : Nat → List UInt8 × AErr) (hu : ∀ M : Nat,M ≤ 1048576 → FnK Tryd.prog gl f [.str s,.ptr 0 0] [(0,.cells [.row 1 0 0,.int .i64 M]),(1,.row 1 [] true)] 2 1 (fun r h n=>((u M).2 = .ok ∧ r = .ret (.tup []) ∧ h = [(0,.cells [.row 1 0 (u M).1.length,.int .i64 M]),(1,.row 1 (bytesAV (u M).1) true)] ∧ n = 2) ∨ (¬ (u M).2 = .ok ∧ r = .panic (.iface 70 (.agg [.int .i64 (errI (u M).2)])) ∧ 1 ≤ n))) (hu0 : ∀ M,¬ (u M).2 = .ok → (u M).1 = []) : FnP Tryd.prog (gl) 20 [.str s,.int .i64 most,.clos f []] fun r=>r = .ret (.tup [.str (if most < 0 then ([],AErr.arg) else u (min most.toNat 1048576)).1,.int .i64 (errI (if most < 0 then ([],AErr.arg) else u (min most.toNat 1048576)).2)]):=by
 refine FnP.introD Tryd.func20 rfl rfl (by simp [Tryd.ntmps20]) ?_
 simp only [argEnv,Tryd.ntmps20]
 refine AW.rS ?_
 refine AW.df ?_
 refine AW.rSC ?_
 refine awOps.cons (awGuard.cM (c_ascii_need _ _ 1) ?_ ?_)
 ·intro hp4
  refine finD_pan ?_
  refine LeaveS.c1 [0,1] (d_unpacked_pan _ _) ?_
  refine LeaveS.rt Tryd.results20 ?_
  rw [if_pos hp4]
  rfl
 intro hm4
 refine awOps.rn ?_
 refine AW.rS ?_
 rw [show min most 1048576 = ((min most.toNat 1048576 : Nat) : Int) by omega]
 refine AW.pre (St.le.nilcell 2 0 1 rfl rfl) ?_
 refine AW.rSC ?_
 refine awOps.cons (awGuard.cKM 1 [2,3] (hu (min most.toNat 1048576) (Nat.min_le_right ..)) ?_ ?_)
 ·intro hp8 n8 hn8
  refine finD_pan ?_
  refine LeaveS.c1 [0,1] (d_unpacked_pan _ _) ?_
  refine LeaveS.rt Tryd.results20 ?_
  rw [if_neg (by omega),hu0 _ hp8]
 intro hm8
 refine awOps.rn ?_
 refine AW.rS ?_
 refine AW.ret ?_
 simp only [finD_ret]
 refine LeaveS.c1 [0,1] (d_unpacked_ret _ _ 0) ?_
 refine LeaveS.rt Tryd.results20 ?_
 rw [if_neg (by omega),hm8]
 rfl
theorem c_ascii_Unhex (gl : List (Nat × AV)) (s : List UInt8) (most : Int) (hs : s.length ≤ 16777216) : FnP Tryd.prog (gl) 8 [.str s,.int .i64 most] fun r=>r = .ret (.tup [.str (unhexD s most).1,.int .i64 (errI (unhexD s most).2)]):=by
 refine FnP.intro Tryd.func8 rfl rfl (by simp [Tryd.ntmps8]) ?_
 simp only [argEnv,Tryd.ntmps8,Tryd.results8]
 refine AW.rS ?_
 refine AW.rSC ?_
 refine awOps.cons (awGuard.c1 (c_ascii_unpacked _ s most _ (fun M=>unhexS M s none []) (fun M hM=>h_Unhex1 _ s M hs hM) (fun M=>ux_fail M s none [])) ?_)
 refine awOps.rn ?_
 refine AW.rt ?_
 rfl
end Go.Proofs

namespace Aw
open Go
theorem lit_step {t : Byt} {k : Nat} (h1 : k < 128) (h2 : k < t.length) (h3 : alikeN (t.drop k) < 3) : litGo (t.drop k) k = litGo (t.drop (k + 1)) (k + 1):=by
 have e:=s_drop t k h2
 rw [e] at h3 ⊢
 conv=>lhs; unfold litGo
 rw [if_neg (by omega),if_pos h3]
theorem lit_end {t : Byt} {k : Nat} (h : ¬ (k < 128 ∧ k < t.length ∧ alikeN (t.drop k) < 3)) : litGo (t.drop k) k = k:=by
 by_cases h2 : k < t.length
 ·have e:=s_drop t k h2
  rw [e] at h ⊢
  conv=>lhs; unfold litGo
  by_cases h1 : 128 ≤ k
  ·rw [if_pos h1]
  ·rw [if_neg h1,if_neg (fun q=>h ⟨by omega,h2,q⟩)]
 ·rw [List.drop_eq_nil_of_le (by omega)]
  unfold litGo
  rfl
theorem lit_one {t : Byt} (h : t ≠ []) (h3 : alikeN t < 3) : litGo (t.drop 1) 1 = litGo t 0:=by
 have hl : 0 < t.length:=List.length_pos_iff.2 h
 have:=lit_step (t:=t) (k:=0) (by decide) hl (by rw [List.drop_zero]; exact h3)
 rw [List.drop_zero] at this
 exact this.symm
theorem run_many {t : Byt} (h : t ≠ []) (h3 : 3 ≤ alikeN t) : runB t = UInt8.ofNat (257 - alikeN t) :: t.getD 0 0 :: runB (t.drop (alikeN t)):=by
 cases t with
 | nil=>exact absurd rfl h
 | cons c t=>rw [runB_many h3] <;> rfl
theorem run_few {t : Byt} {n : Nat} (h : t ≠ []) (h3 : ¬ 3 ≤ alikeN t) (hn : litGo t 0 = n) : runB t = UInt8.ofNat (n - 1) :: (t.take n ++ runB (t.drop n)):=by
 subst hn
 cases t with
 | nil=>exact absurd rfl h
 | cons c t=>rw [runB_few h3]
theorem runB_bound (s : Byt) : (runB s).length ≤ s.length + (s.length + 127) / 128:=(runB_len s.length s (Nat.le_refl _)).1
theorem u8_ofNat {n : Nat} (h : n < 256) : (UInt8.ofNat n).toNat = n:=by
 rw [UInt8.toNat_ofNat']
 exact Nat.mod_eq_of_lt h
section
variable {M : Nat} {t out : Byt}
theorem t_cons (h : t ≠ []) : t = t.getD 0 0 :: t.drop 1:=by
 cases t with
 | nil=>exact absurd rfl h
 | cons c r=>rfl
theorem ur_stop (h : t ≠ []) (hc : ((t.getD 0 0).toNat : Int) = 128) : unrunS M t out = (out,.ok):=by
 have hc' : t.getD 0 0 = 128:=u8_eq (d:=128) hc
 rw [t_cons h,hc']
 exact unrun_stop M _ _
theorem ur_lit (h : t ≠ []) (hc : ((t.getD 0 0).toNat : Int) < 128) : unrunS M t out =
  if (t.drop 1).length ≤ (t.getD 0 0).toNat then ([],.ending) else if out.length + ((t.getD 0 0).toNat + 1) ≤ M then unrunS M ((t.drop 1).drop ((t.getD 0 0).toNat + 1)) (out ++ (t.drop 1).take ((t.getD 0 0).toNat + 1)) else ([],.long):=by
 conv=>lhs; rw [t_cons h,unrunS.eq_def]
 simp only []
 rw [if_neg (by rw [← UInt8.toNat_inj]; show ¬ (t.getD 0 0).toNat = 128; omega),if_pos (by rw [UInt8.lt_iff_toNat_lt]; show (t.getD 0 0).toNat < 128; omega)]
theorem ur_rep0 (h : t ≠ []) (hc : 128 < ((t.getD 0 0).toNat : Int)) (hr : t.drop 1 = []) : unrunS M t out = ([],.ending):=by
 conv=>lhs; rw [t_cons h,unrunS.eq_def]
 simp only []
 rw [if_neg (by rw [← UInt8.toNat_inj]; show ¬ (t.getD 0 0).toNat = 128; omega),if_neg (by rw [UInt8.lt_iff_toNat_lt]; show ¬ (t.getD 0 0).toNat < 128; omega),hr]
theorem ur_rep (h : t ≠ []) (hc : 128 < ((t.getD 0 0).toNat : Int)) (hr : t.drop 1 ≠ []) : unrunS M t out =
  if out.length + (257 - (t.getD 0 0).toNat) ≤ M then unrunS M ((t.drop 1).drop 1) (out ++ List.replicate (257 - (t.getD 0 0).toNat) ((t.drop 1).getD 0 0)) else ([],.long):=by
 conv=>lhs; rw [t_cons h,t_cons hr]
 exact unrunS_big (by rw [ne_eq,← UInt8.toNat_inj]; show ¬ (t.getD 0 0).toNat = 128; omega) (by rw [UInt8.lt_iff_toNat_lt]; show ¬ (t.getD 0 0).toNat < 128; omega)
end
theorem ur_fail (M : Nat) : ∀ (n : Nat) (s out : Byt),s.length ≤ n → ¬ (unrunS M s out).2 = .ok → (unrunS M s out).1 = []
 | _,[],out,_=>by rw [unrunS_nil]; intro _; rfl
 | 0,c :: s,out,h=>absurd h (by simp)
 | n + 1,c :: s,out,h=>by
  simp only [List.length_cons] at h
  rw [unrunS.eq_def]
  simp only []
  split
  ·intro q; exact absurd rfl q
  ·split
   ·split
    ·intro _; rfl
    ·split
     ·exact ur_fail M n _ _ (by simp; omega)
     ·intro _; rfl
   ·split
    ·intro _; rfl
    ·rename_i x r
     split
     ·exact ur_fail M n _ _ (by simp only [List.length_cons] at h; omega)
     ·intro _; rfl
theorem repeat_one (x : UInt8) (n : Nat) : Lib.repeatL [x] n = List.replicate n x:=by
 have:=Lib.repeatL_replicate x 1 n
 rwa [Nat.mul_one] at this
theorem take_one {t : Byt} (h : t ≠ []) : t.take 1 = [t.getD 0 0]:=by
 cases t with
 | nil=>exact absurd rfl h
 | cons c r=>rfl
end Aw

namespace Aw
open Go
def putE (out : Byt) (l : List Nat) (M : Nat) : Int:=if 4294967296 ≤ val5 l then 3 else if out.length + (l.length - 1) ≤ M then 0 else 5
def putO (out : Byt) (l : List Nat) : Byt:=out ++ (bytes4 (val5 l)).take (l.length - 1)
theorem putE_form {out : Byt} {l : List Nat} {M : Nat} (h : 4294967296 ≤ val5 l) : putE out l M = 3:=by rw [putE,if_pos h]
theorem putE_ok {out : Byt} {l : List Nat} {M : Nat} (h : ¬ 4294967296 ≤ val5 l) (h2 : out.length + (l.length - 1) ≤ M) : putE out l M = 0:=by rw [putE,if_neg h,if_pos h2]
theorem putE_long {out : Byt} {l : List Nat} {M : Nat} (h : ¬ 4294967296 ≤ val5 l) (h2 : ¬ out.length + (l.length - 1) ≤ M) : putE out l M = 5:=by rw [putE,if_neg h,if_neg h2]
theorem wrapU8 (n : Nat) : IntKind.u8.wrap (n : Int) = ((UInt8.ofNat n).toNat : Int):=by
 rw [UInt8.toNat_ofNat']
 show ((n : Int) % (2 ^ 8 : Int) : Int) = _
 omega
theorem sh_nat (n k : Nat) (hk : k ≤ 64) : bitShr .u64 (n : Int) (k : Int) = ((n / 2 ^ k : Nat) : Int):=by
 unfold bitShr
 rw [Int.toNat_natCast,show min k IntKind.u64.bits = k from Nat.min_eq_left hk,Int.fdiv_eq_ediv_of_nonneg _ (by exact_mod_cast Nat.zero_le _)]
 push_cast
 rfl
theorem b4_0 (n : Nat) : IntKind.u8.wrap (bitShr .u64 (n : Int) 24) = ((UInt8.ofNat (n / 16777216)).toNat : Int):=by
 have:=sh_nat n 24 (by decide)
 rw [show ((24 : Nat) : Int) = 24 from rfl] at this
 rw [this,wrapU8]
theorem b4_1 (n : Nat) : IntKind.u8.wrap (bitShr .u64 (n : Int) 16) = ((UInt8.ofNat (n / 65536)).toNat : Int):=by
 have:=sh_nat n 16 (by decide)
 rw [show ((16 : Nat) : Int) = 16 from rfl] at this
 rw [this,wrapU8]
theorem b4_2 (n : Nat) : IntKind.u8.wrap (bitShr .u64 (n : Int) 8) = ((UInt8.ofNat (n / 256)).toNat : Int):=by
 have:=sh_nat n 8 (by decide)
 rw [show ((8 : Nat) : Int) = 8 from rfl] at this
 rw [this,wrapU8]
def endR (M : Nat) (s : Byt) (l : List Nat) (out : Byt) : Byt × AErr :=
 match s with
 | []=>([],.ending)
 | x :: _=>if x = 62 ∧ l.length ≠ 1 then
   if l = [] then (out,.ok) else if 4294967296 ≤ val5 l then ([],.form) else if out.length + (l.length - 1) ≤ M then (putO out l,.ok) else ([],.long)
  else ([],.form)
theorem end_nil {M : Nat} {l : List Nat} {out : Byt} : endR M [] l out = ([],.ending):=rfl
theorem end_bad {M : Nat} {s : Byt} {l : List Nat} {out : Byt} (hs : s ≠ []) (h : ¬ (((s.getD 0 0).toNat : Int) = 62 ∧ ¬ (l.length : Int) = 1)) : endR M s l out = ([],.form):=by
 cases s with
 | nil=>exact absurd rfl hs
 | cons x s =>
  unfold endR
  simp only
  rw [if_neg]
  rintro ⟨rfl,h2⟩
  exact h ⟨rfl,by omega⟩
theorem end_none {M : Nat} {s : Byt} {out : Byt} (hs : s ≠ []) (h : ((s.getD 0 0).toNat : Int) = 62) : endR M s [] out = (out,.ok):=by
 cases s with
 | nil=>exact absurd rfl hs
 | cons x s =>
  have : x = 62:=u8_eq (d:=62) h
  subst this
  unfold endR
  simp
theorem end_put {M : Nat} {s : Byt} {l : List Nat} {out : Byt} (hs : s ≠ []) (h : ((s.getD 0 0).toNat : Int) = 62) (hl : l ≠ []) (h1 : l.length ≠ 1) : endR M s l out = if putE out l M = 0 then (putO out l,.ok) else if putE out l M = 3 then ([],.form) else ([],.long):=by
 cases s with
 | nil=>exact absurd rfl hs
 | cons x s =>
  have : x = 62:=u8_eq (d:=62) h
  subst this
  unfold endR
  simp only
  rw [if_pos ⟨trivial,h1⟩,if_neg hl]
  by_cases h2 : 4294967296 ≤ val5 l
  ·rw [if_pos h2,putE_form h2] <;> rfl
  ·by_cases h3 : out.length + (l.length - 1) ≤ M
   ·rw [if_neg h2,if_pos h3,putE_ok h2 h3] <;> rfl
   ·rw [if_neg h2,if_neg h3,putE_long h2 h3] <;> rfl
theorem putE_cases (out : Byt) (l : List Nat) (M : Nat) : putE out l M = 0 ∨ putE out l M = 3 ∨ putE out l M = 5:=by
 unfold putE
 split
 ·exact .inr (.inl rfl)
 ·split
  ·exact .inl rfl
  ·exact .inr (.inr rfl)
section
variable {M : Nat} {s : Byt} {i : Nat} {l : List Nat} {out : Byt}
theorem vx_white (hi : i < s.length) (hw : whiteC (s.getD i 0) = true) : unfiveS M (s.drop i) l out = unfiveS M (s.drop (i + 1)) l out:=by
 rw [s_drop s i hi]
 conv=>lhs; unfold unfiveS
 rw [if_pos hw]
theorem vx_z (hi : i < s.length) (hw : whiteC (s.getD i 0) = false) (hc : ((s.getD i 0).toNat : Int) = 122) (hl : l = []) : unfiveS M (s.drop i) l out = if out.length + 4 ≤ M then unfiveS M (s.drop (i + 1)) [] (out ++ [0,0,0,0]) else ([],.long):=by
 rw [s_drop s i hi]
 conv=>lhs; unfold unfiveS
 rw [if_neg (by rw [hw]; decide),if_pos ⟨u8_eq (d:=122) hc,hl⟩]
theorem vx_dig (hi : i < s.length) (hw : whiteC (s.getD i 0) = false) (h1 : 33 ≤ ((s.getD i 0).toNat : Int)) (h2 : ((s.getD i 0).toNat : Int) ≤ 117) : unfiveS M (s.drop i) l out =
  if l.length = 4 then (if 4294967296 ≤ val5 (l ++ [(s.getD i 0).toNat - 33]) then ([],.form) else if out.length + 4 ≤ M then unfiveS M (s.drop (i + 1)) [] (out ++ bytes4 (val5 (l ++ [(s.getD i 0).toNat - 33]))) else ([],.long))
  else unfiveS M (s.drop (i + 1)) (l ++ [(s.getD i 0).toNat - 33]) out:=by
 rw [s_drop s i hi]
 conv=>lhs; unfold unfiveS
 rw [if_neg (by rw [hw]; decide),if_neg (fun q=>by have:=congrArg UInt8.toNat q.1; change _ = 122 at this; omega),
  if_pos ⟨by rw [UInt8.le_iff_toNat_le]; show 33 ≤ (s.getD i 0).toNat; omega,by rw [UInt8.le_iff_toNat_le]; show (s.getD i 0).toNat ≤ 117; omega⟩]
theorem vx_end (hi : i < s.length) (hc : ((s.getD i 0).toNat : Int) = 126) : unfiveS M (s.drop i) l out = endR M (s.drop (i + 1)) l out:=by
 rw [s_drop s i hi]
 conv=>lhs; unfold unfiveS
 have hc' : s.getD i 0 = 126:=u8_eq (d:=126) hc
 rw [hc',if_neg (by decide),if_neg (fun q=>absurd q.1 (by decide)),if_neg (by decide),if_pos rfl]
 unfold endR
 generalize s.drop (i + 1) = r
 cases r <;> rfl
theorem vx_form (hi : i < s.length) (hw : whiteC (s.getD i 0) = false) (h1 : ¬ (((s.getD i 0).toNat : Int) = 122 ∧ l = [])) (h2 : ¬ (33 ≤ ((s.getD i 0).toNat : Int) ∧ ((s.getD i 0).toNat : Int) ≤ 117)) (h3 : ¬ ((s.getD i 0).toNat : Int) = 126) : unfiveS M (s.drop i) l out = ([],.form):=by
 rw [s_drop s i hi]
 conv=>lhs; unfold unfiveS
 rw [if_neg (by rw [hw]; decide),if_neg (fun q=>h1 ⟨by rw [q.1]; rfl,q.2⟩),if_neg (fun q=>h2 ⟨by have:=UInt8.le_iff_toNat_le.1 q.1; change 33 ≤ _ at this; omega,by have:=UInt8.le_iff_toNat_le.1 q.2; change _ ≤ 117 at this; omega⟩),
  if_neg (u8_ne (d:=126) h3)]
theorem vx_done (hi : ¬ i < s.length) : unfiveS M (s.drop i) l out = ([],.ending):=by
 rw [List.drop_eq_nil_of_le (by omega)]
 exact un_cut0 M l out
end
theorem vx_fail (M : Nat) : ∀ (s : Byt) (l : List Nat) (out : Byt),¬ (unfiveS M s l out).2 = .ok → (unfiveS M s l out).1 = []
 | [],l,out=>by rw [un_cut0]; intro _; rfl
 | c :: s,l,out=>by
  unfold unfiveS
  split
  ·exact vx_fail M s l out
  ·split
   ·split
    ·exact vx_fail M s _ _
    ·intro _; rfl
   ·split
    ·split
     ·split
      ·intro _; rfl
      ·split
       ·exact vx_fail M s _ _
       ·intro _; rfl
     ·exact vx_fail M s _ _
    ·split
     ·split
      ·intro _; rfl
      ·split
       ·split
        ·intro q; exact absurd rfl q
        ·split
         ·intro _; rfl
         ·split
          ·intro q; exact absurd rfl q
          ·intro _; rfl
       ·intro _; rfl
     ·intro _; rfl
end Aw
