/- A part of the proof: no condition of its own. -/
import Derived.Test.YtlamdhcfojligaaGreatPart2
import Derived.ProofKit
import Derived.Below
import Derived.ChangeSame
import Derived.HandedShaped
import Derived.OpenShut
namespace Aw
open Go Go.RowKit Go.WideShapes Go.ChangeShapes
theorem FnP.below {P : Program} {gl : List (Nat × AV)} {f : FuncId} {xs : List AV} (h : FnP P gl f xs fun r=>r = .ret (.bool true)) {m : Mem} {vs : List Value} {W : World} (hw : m.w = W)
  (hm : Start m gl) (hP : m.Pr = fun b=>b < W.heap.size) (hv : RepL m 1 xs vs) : Calls P f vs.toArray W fun e W'=>e = .returned (.bool true) ∧ Below W.heap.size W W':=by
 subst hw
 refine (h.calls m vs hm hv).mono ?_
 rintro e w' ⟨m',r,rfl,hle,_,hend,rfl⟩
 obtain ⟨v,rfl,hv⟩:=hend
 simp only [Rep] at hv
 subst hv
 exact ⟨rfl,hle.os,hle.tape,hle.output,hle.size,fun b hb=>hle.block b (by rw [hP]; exact hb)⟩

section
variable {H : Type} {enc : TypeId × Value → H} {P : Program}
theorem trodAll_stays (hl : laidOutB P = true) {W W' : World} {sp' : Nat → Bool} : ∀ {ts : List TypeId} {vs : List Value} {ds : List (DataW H)} {ps : List MemPlace},
  ts.all (fun t=>P.readableRec t && decide (t < P.types.size)) = true → DataW.TrodAll enc P W 0 (fun _=>true) true ts vs ds ps → (∀ p ∈ ps,W.sameAt W' p) → (∀ p ∈ ps,sp' p.block = true) →
  DataW.TrodAll enc P W' 0 sp' true ts vs ds ps
 | [],vs,ds,ps,_,h,_,_=>by
  obtain ⟨rfl,rfl,rfl⟩:=trodAll_nil h
  exact trodAll_mk0
 | t :: ts,vs,ds,ps,hr,h,h1,h2=>by
  obtain ⟨v,vs,d,ds,p,q,rfl,rfl,rfl,hv,hr'⟩:=trodAll_cons h
  simp only [List.all_cons,Bool.and_eq_true,decide_eq_true_eq] at hr
  exact trodAll_cons_mk (WideElems.Trod_stays hl hr.1.1 hr.1.2 hv (fun x hx=>h1 x (by simp [hx])) (fun x hx=>h2 x (by simp [hx])))
   (trodAll_stays hl (by simpa using hr.2) hr' (fun x hx=>h1 x (by simp [hx])) (fun x hx=>h2 x (by simp [hx])))

theorem law_post {f : Func} {s : ChangeSpec} {fresh handsOn again : Bool} {W W' : World} {args : Array Value} {ds gs : List (DataW H)} {before : List MemPlace} {tb : TypeId} (hl : laidOutB P = true)
  (hrt : f.resultTypes = #[tb]) (htb : P.underlying tb = some .bool) (hps : f.params.toList.all (fun t=>P.readableRec t && decide (t < P.types.size)) = true) (hvar : s.vars = [])
  (hs : s.fn H (ds ++ gs) = { results:=[.lit (.bool true)],args:=ds }) (hW : DataW.Whole enc P f.params.toList s.vars false W args.toList ds gs before) (hb : Below W.heap.size W W') :
  s.post enc P f false fresh handsOn again W args (.bool true) W':=by
 have hlt : ∀ p ∈ before,p.block < W.heap.size:=fun p hp=>hW.lt p hp
 have hold : ∀ p ∈ before,(fun b=>decide (b < W.heap.size)) p.block = true:=fun p hp=>by simpa using hlt p hp
 have hres : ∀ (b : Nat) (sp : Nat → Bool) (hd : Bool),DataW.TrodAll enc P W' b sp hd f.resultTypes.toList ((Value.bool true).resultList f.resultTypes.size) (s.fn H (ds ++ gs)).results []:=by
  intro b sp hd
  rw [hrt,hs]
  exact trodAll_mk1 ⟨1,by simp [DataW.trod,Value.cells,htb]⟩
 obtain ⟨p,q,hA,hV,e,hz,hn⟩:=hW
 rw [hvar] at hV
 obtain ⟨rfl,rfl⟩:=trodVars_none hV
 rw [List.append_nil] at e
 subst e
 have hargs : ∀ sp : Nat → Bool,(∀ x ∈ before,sp x.block = true) → DataW.TrodAll enc P W' 0 sp true f.params.toList args.toList (s.fn H (ds ++ [])).args before:=by
  intro sp hsp
  rw [hs]
  exact trodAll_stays hl hps hA (fun x hx=>hb.same (hlt x hx)) hsp
 have hvars : ∀ sp : Nat → Bool,DataW.TrodVars enc P W' sp s.vars (s.fn H (ds ++ [])).vars []:=by
  intro sp
  rw [hs,hvar]
  rfl
 have hW0 : DataW.Whole enc P f.params.toList s.vars false W args.toList ds [] before:=⟨before,[],hA,by rw [hvar]; rfl,by simp,hz,hn⟩
 refine ⟨ds,[],before,[],before,[],hW0,hres _ _ _,hargs _ hold,hvars _,World.keptBut_mono (fun p hp=>⟨hp,Or.inr (Or.inl hp)⟩) (hb.frame (· ∈ before)),fun _=>?_⟩
 refine ⟨?_,_,_,([] ++ before) ++ [],⟨[] ++ before,[],trodAll_append (hargs _ (fun _ _=>rfl)) (hres _ _ _),hvars _,rfl,?_,?_⟩,?_⟩
 ·exact ok_one hrt rfl (okWide_bool_mk htb _)
 ·intro b off hp
  have hin : MemPlace.cell b off ∈ before:=by simpa using hp
  rw [hb.frozen (hlt _ hin)]
  exact hz b off hin
 ·intro ha
  cases ha
 ·intro p hp _
  simpa using hp
end
theorem rep_str {m : Mem} {k : Nat} (s : ByteArray) : Rep m k (.str s.data.toList) (.string s):=by simp only [Rep]
theorem rep_int {m : Mem} {k : Nat} {ki : IntKind} (n : Int) : Rep m k (.int ki n) (.int ki n):=by simp only [Rep]
theorem rep_bool {m : Mem} {k : Nat} (b : Bool) : Rep m k (.bool b) (.bool b):=by simp only [Rep]
theorem repl_nil {m : Mem} {k : Nat} : RepL m k [] []:=by simp only [RepL]
theorem repl_cons {m : Mem} {k : Nat} {x : AV} {v : Value} {xs : List AV} {vs : List Value} (h : Rep m k x v) (hs : RepL m k xs vs) : RepL m k (x :: xs) (v :: vs):=by
 simp only [RepL]
 exact ⟨v,vs,rfl,h,hs⟩
theorem wf_i64 {n : Int} (h : (Lit.int .i64 n).wf = true) : -9223372036854775808 ≤ n ∧ n ≤ 9223372036854775807:=by
 simpa [Lit.wf,IntKind.min,IntKind.max,IntKind.bits,IntKind.signed] using h
theorem wf_u8 {n : Int} (h : (Lit.int .u8 n).wf = true) : 0 ≤ n ∧ n ≤ 255:=by
 simpa [Lit.wf,IntKind.min,IntKind.max,IntKind.bits,IntKind.signed] using h
end Aw

namespace Aw
open Go Go.RowKit Go.WideShapes Go.ChangeShapes
mutual
def dbulk {H : Type} : DataW H → Nat
 | .lit (.string bytes)=>bytes.length + 1
 | .lit _=>1
 | .nil=>1
 | .ptr d=>dbulk d + 1
 | .slice elems spare=>dbulks elems + dbulks spare + 1
 | .agg parts=>dbulks parts + 1
 | .iface _ d=>dbulk d + 1
 | .map _=>1
 | .held _=>1
def dbulks {H : Type} : List (DataW H) → Nat
 | []=>0
 | d :: r=>dbulk d + dbulks r
end
def gmA (W : World) : Mem:={ w:=W,F:=fun b _=>b < W.heap.size,Pr:=fun b=>b < W.heap.size,ρ:=fun _=>none,np:=0 }
theorem gstartA0 (W : World) : Aw.Start (gmA W) []:=⟨fun _ _ h=>h,fun _ hb=>hb,fun g x hg=>by simp [Aw.get] at hg,rfl,fun _=>rfl⟩
theorem cell_lt {W : World} {a : Addr} {v : Value} (h : W.cell? a = some v) : a.block < W.heap.size:=by
 rcases Nat.lt_or_ge a.block W.heap.size with hlt | hge
 ·exact hlt
 ·have : W.heap[a.block]? = none:=by rw [Array.getElem?_eq_none]; exact hge
  simp [World.cell?,this] at h
theorem cell_spot {W : World} {a : Addr} {v : Value} (h : W.cell? a = some v) : a = ⟨a.block,a.off,none⟩:=by
 obtain ⟨b,o,s⟩:=a
 cases s with
 | none=>rfl
 | some s =>
  simp only [World.cell?,Option.isSome_some,if_true] at h
  split at h <;> cases h
theorem addr_add_ok {W : World} {a : Addr} {n : Nat} {v : Value} (h : W.cell? (a.add n) = some v) : a.add n = ⟨a.block,a.off + n,none⟩:=by
 unfold Addr.add at *
 split
 ·rename_i e
  subst e
  rw [if_pos rfl] at h
  exact cell_spot h
 ·rfl
theorem RepC.of_cells {W : World} {b : Nat} : ∀ {xs : List AV} {l : List Value} {o : Nat},RepL (gmA W) 2 xs l → (∀ j,j < l.length → W.cell? ⟨b,o + j,none⟩ = l[j]?) → RepC (gmA W) xs b o
 | [],_,_,_,_=>by simp only [RepC]
 | x :: xs,l,o,h,hc=>by
  simp only [RepL] at h
  obtain ⟨v,rest,rfl,hv,hr⟩:=h
  have h0:=hc 0 (by simp)
  simp only [Nat.add_zero,List.getElem?_cons_zero] at h0
  simp only [RepC]
  refine ⟨cell_lt h0,⟨v,h0,hv⟩,RepC.of_cells hr fun j hj=>?_⟩
  have:=hc (j + 1) (by simpa using hj)
  rw [show o + 1 + j = o + (j + 1) from by omega,this]
  rfl
section
variable {H : Type} (enc : TypeId × Value → H) (P : Program) (W : World)
def Opn {α : Type} (N : Nat) (t : TypeId) (cells : α → List AV) (size : α → Nat) (wf : α → Prop) : Prop :=
 ∀ (fuel : Nat) (cs : List Value) (x : DataW H × List MemPlace),fuel ≤ N → DataW.trod enc P W 0 (fun _=>true) true fuel t cs = some x → ∃ a : α,RepL (gmA W) 2 (cells a) cs ∧ size a ≤ dbulk x.1 ∧ wf a
def OpnF {α : Type} (N : Nat) (fs : List (Nat × TypeId)) (o e : Nat) (cells : α → List AV) (size : α → Nat) (wf : α → Prop) : Prop :=
 ∀ (fuel : Nat) (cs : List Value) (xs : List (DataW H × List MemPlace)),fuel ≤ N → xs.length = fs.length → cs.length = e →
  (∀ (i : Nat) (f : Nat × TypeId),fs[i]? = some f → DataW.trod enc P W 0 (fun _=>true) true fuel f.2 ((cs.drop f.1).take (P.cellsOf f.2)) = xs[i]?) → ∃ a : α,RepL (gmA W) 2 (cells a) (cs.drop o) ∧ size a ≤ dbulks (xs.map (·.1)) ∧ wf a
end
section
variable {H : Type} {enc : TypeId × Value → H} {P : Program} {W : World} {N : Nat} {t e : TypeId}
theorem Opn.mono {α : Type} {cells : α → List AV} {size : α → Nat} {wf : α → Prop} {N' : Nat} (h : Opn enc P W N t cells size wf) (hN : N' ≤ N) : Opn enc P W N' t cells size wf :=
 fun fuel cs x hf hx=>h fuel cs x (by omega) hx
theorem Opn.as {α β : Type} {cells : α → List AV} {size : α → Nat} {wf : α → Prop} (f : α → β) {cells' : β → List AV} {size' : β → Nat} {wf' : β → Prop} (h : Opn enc P W N t cells size wf)
  (hc : ∀ a,cells' (f a) = cells a) (hs : ∀ a,size' (f a) ≤ size a) (hw : ∀ a,wf a → wf' (f a)) : Opn enc P W N t cells' size' wf':=by
 intro fuel cs x hf hx
 obtain ⟨a,h1,h2,h3⟩:=h fuel cs x hf hx
 exact ⟨f a,by rw [hc]; exact h1,Nat.le_trans (hs a) h2,hw a h3⟩
theorem Opn.int {k : IntKind} (ht : P.underlying t = some (.int k)) : Opn enc P W N t (fun n : Int=>[.int k n]) (fun _=>1) (fun n=>(Lit.int k n).wf = true):=by
 intro fuel cs x _ hx
 obtain ⟨n,rfl,rfl,hw⟩:=DataW.trod_int ht hx
 exact ⟨n,repl_cons (rep_int n) repl_nil,by simp [dbulk],hw⟩
theorem Opn.bool (ht : P.underlying t = some .bool) : Opn enc P W N t (fun b : Bool=>[.bool b]) (fun _=>1) (fun _=>True):=by
 intro fuel cs x _ hx
 obtain ⟨n,rfl,rfl⟩:=DataW.trod_bool ht hx
 exact ⟨n,repl_cons (rep_bool n) repl_nil,by simp [dbulk],trivial⟩
theorem Opn.str (ht : P.underlying t = some .string) : Opn enc P W N t (fun s : List UInt8=>[.str s]) (fun s=>s.length + 1) (fun _=>True):=by
 intro fuel cs x _ hx
 obtain ⟨s,rfl,rfl,_⟩:=DataW.trod_string ht hx
 exact ⟨s.data.toList,repl_cons (rep_str s) repl_nil,by simp [dbulk],trivial⟩
theorem cells_of {a : Addr} {n : Nat} {l : List Value} (h : W.cells? 0 a n = some l) : l.length = n ∧ ∀ j,j < n → W.cell? (a.add j) = l[j]?:=by
 simp only [World.cells?,Nat.zero_le,if_true] at h
 exact ⟨by simpa using mapM_some_length h,fun j hj=>mapM_some_get h j j (by simp [hj])⟩
theorem Opn.slice {α : Type} {cells : α → List AV} {size : α → Nat} {wf : α → Prop} (ht : P.underlying t = some (.slice e)) (hc : 0 < P.cellsOf e) (he : Opn enc P W N e cells size wf) :
  Opn enc P W (N + 1) t (fun l : List α=>[.sl (l.map cells)]) (fun l=>(l.map size).sum + 1) (fun l=>∀ a ∈ l,wf a):=by
 intro fuel cs x hf hx
 rcases DataW.trod_slice ht hx with ⟨rfl,rfl⟩ | ⟨a,len,cap,elems,rest,n,rfl,rfl,rfl,_,hle,_,hlen,hel,_,_⟩
 ·exact ⟨[],repl_cons (by simp only [Rep,List.map_nil]; exact .inl ⟨trivial,_,_,rfl⟩) repl_nil,by simp [dbulk],by simp⟩
 ·have key : ∀ (es : List (DataW H × List MemPlace)) (o : Nat),(∀ i,i < es.length → (W.cells? 0 (a.add ((o + i) * P.cellsOf e)) (P.cellsOf e)).bind (DataW.trod enc P W 0 (fun _=>true) true n e) = es[i]?) →
    ∃ l : List α,l.length = es.length ∧ RepE (gmA W) (l.map cells) a.block (a.off + o * P.cellsOf e) (P.cellsOf e) ∧ (l.map size).sum ≤ dbulks (es.map (·.1)) ∧ ∀ b ∈ l,wf b:=by
   intro es
   induction es with
   | nil=>intro o _; exact ⟨[],rfl,by simp only [List.map_nil,RepE],by simp,by simp⟩
   | cons y es ih =>
    intro o hy
    obtain ⟨l,hl,hr,hs,hw⟩:=ih (o + 1) (fun i hi=>by
     have:=hy (i + 1) (by simpa using hi)
     rw [show o + 1 + i = o + (i + 1) from by omega,this]; rfl)
    have h0:=hy 0 (by simp)
    simp only [Nat.add_zero,List.getElem?_cons_zero,Option.bind_eq_some_iff] at h0
    obtain ⟨vs,hv,hy0⟩:=h0
    obtain ⟨b,hb1,hb2,hb3⟩:=he n vs y (by omega) hy0
    obtain ⟨hvl,hvc⟩:=cells_of hv
    have hbl:=RepL.length hb1
    refine ⟨b :: l,by simp [hl],?_,?_,?_⟩
    ·simp only [List.map_cons,RepE]
     have h1 : ∀ j,j < P.cellsOf e → W.cell? ⟨a.block,a.off + o * P.cellsOf e + j,none⟩ = vs[j]?:=by
      intro j hj
      have h2:=hvc j hj
      rw [← h2]
      have hj' : j < vs.length:=by omega
      rw [List.getElem?_eq_getElem hj'] at h2
      have h3 : W.cell? (a.add (o * P.cellsOf e)) = vs[0]?:=by
       have:=hvc 0 hc
       simpa [Addr.add] using this
      rw [List.getElem?_eq_getElem (by omega)] at h3
      have h4:=addr_add_ok h3
      have h5:=addr_add_ok h2
      rw [h5,h4]
     refine ⟨by omega,RepC.of_cells hb1 (fun j hj=>h1 j (by omega)),?_⟩
     have : a.off + (o + 1) * P.cellsOf e = a.off + o * P.cellsOf e + P.cellsOf e:=by rw [Nat.succ_mul]; omega
     rw [← this]
     exact hr
    ·simp only [List.map_cons,List.sum_cons,dbulks]
     omega
    ·intro c hcm
     rcases List.mem_cons.1 hcm with rfl | hcm
     ·exact hb3
     ·exact hw c hcm
  obtain ⟨l,hl,hr,hs,hw⟩:=key elems 0 (fun i hi=>by rw [Nat.zero_add]; exact hel i (by omega))
  refine ⟨l,repl_cons ?_ repl_nil,?_,hw⟩
  ·simp only [Rep]
   by_cases h0 : len = 0
   ·left
    have : l = []:=List.length_eq_zero_iff.1 (by omega)
    subst this
    exact ⟨rfl,a,cap,by rw [h0]⟩
   ·right
    have h1:=hel 0 (by omega)
    rw [List.getElem?_eq_getElem (by omega)] at h1
    simp only [Nat.zero_mul,Option.bind_eq_some_iff] at h1
    obtain ⟨vs,hv,_⟩:=h1
    obtain ⟨hvl,hvc⟩:=cells_of hv
    have h2:=hvc 0 hc
    rw [List.getElem?_eq_getElem (by omega)] at h2
    have h3 : a.add 0 = a:=by simp [Addr.add]
    simp only [h3] at h2
    have h4:=cell_spot h2
    refine ⟨a.block,a.off,cap,P.cellsOf e,?_,by simp only [List.length_map]; omega,?_⟩
    ·rw [← h4]; simp only [List.length_map]; rw [hl,hlen]
    ·simpa using hr
  ·simp only [dbulk]
   omega
theorem OpnF.nil {o : Nat} : OpnF enc P W N [] o o (fun _ : Unit=>[]) (fun _=>0) (fun _=>True):=by
 intro fuel cs xs _ _ hl _
 exact ⟨(),by rw [List.drop_eq_nil_of_le (by omega)]; exact repl_nil,Nat.zero_le _,trivial⟩
theorem OpnF.cons {α β : Type} {ca : α → List AV} {sa : α → Nat} {wa : α → Prop} {cb : β → List AV} {sb : β → Nat} {wb : β → Prop} {o c z : Nat} {fs : List (Nat × TypeId)} (h : Opn enc P W N t ca sa wa) (hc : P.cellsOf t = c) (hr : OpnF enc P W N fs (o + c) z cb sb wb) :
  OpnF enc P W N ((o,t) :: fs) o z (fun p : α × β=>ca p.1 ++ cb p.2) (fun p=>sa p.1 + sb p.2) (fun p=>wa p.1 ∧ wb p.2):=by
 intro fuel cs xs hf hl hcl hx
 cases xs with
 | nil=>simp at hl
 | cons x xs =>
  have h0:=hx 0 (o,t) rfl
  simp only [List.getElem?_cons_zero] at h0
  obtain ⟨a,a1,a2,a3⟩:=h fuel _ x hf h0
  obtain ⟨b,b1,b2,b3⟩:=hr fuel cs xs hf (by simpa using hl) hcl (fun i f hi=>by simpa using hx (i + 1) f (by simpa using hi))
  refine ⟨(a,b),?_,by simp only [List.map_cons,dbulks]; omega,a3,b3⟩
  have:=RepL.append a1 b1
  rw [hc] at this
  have e : (cs.drop o).take c ++ cs.drop (o + c) = cs.drop o:=by rw [← List.drop_drop,List.take_append_drop]
  rwa [e] at this
theorem Opn.struct {α : Type} {fs : Array Field} {l : List (Nat × TypeId)} {z : Nat} {cells : α → List AV} {size : α → Nat} {wf : α → Prop} (ht : P.underlying t = some (.struct fs)) (hl : fs.toList.map (fun f=>(f.offset,f.type)) = l) (hz : P.cellsOf t = z) (h : OpnF enc P W N l 0 z cells size wf) :
  Opn enc P W (N + 1) t cells (fun a=>size a + 1) wf:=by
 intro fuel cs x hf hx
 obtain ⟨xs,n,rfl,rfl,hcl,hxl,hxs⟩:=DataW.trod_struct ht hx
 obtain ⟨a,a1,a2,a3⟩:=h n cs xs (by omega) (by rw [hxl,← hl]; simp) (by omega) (fun i f hi=>by
  rw [← hl,List.getElem?_map,Option.map_eq_some_iff] at hi
  obtain ⟨g,hg,rfl⟩:=hi
  exact hxs i g (by simpa using hg))
 refine ⟨a,by simpa using a1,?_,a3⟩
 simp only [dbulk]
 omega
theorem Opn.zero {α : Type} {cells : α → List AV} {size : α → Nat} {wf : α → Prop} : Opn enc P W 0 t cells size wf:=by
 intro fuel cs x hf hx
 obtain rfl : fuel = 0:=by omega
 simp [DataW.trod] at hx
end
/-! objects -/
mutual
def Pob.tot : Pob → Nat
 | .mk _ _ _ s ks l=>s.length + (ks.map fun k=>k.length + 1).sum + tots l + 7
def tots : List Pob → Nat
 | []=>0
 | o :: l=>o.tot + tots l
end
def inI64 (n : Int) : Prop:=-9223372036854775808 ≤ n ∧ n ≤ 9223372036854775807
mutual
def Pob.wf : Pob → Prop
 | .mk k n g _ _ l=>inI64 k ∧ inI64 n ∧ inI64 g ∧ wfs l
def wfs : List Pob → Prop
 | []=>True
 | o :: l=>o.wf ∧ wfs l
end
theorem tots_map (l : List Pob) : (l.map Pob.tot).sum = tots l:=by
 induction l with
 | nil=>simp [tots]
 | cons o l ih=>simp only [List.map_cons,List.sum_cons,tots,ih]
theorem wfs_of {l : List Pob} (h : ∀ o ∈ l,o.wf) : wfs l:=by
 induction l with
 | nil=>simp only [wfs]
 | cons o l ih=>simp only [wfs]; exact ⟨h o (by simp),ih fun x hx=>h x (by simp [hx])⟩
theorem keys_sum (ks : List (List UInt8)) : ks.length ≤ (ks.map fun k=>k.length + 1).sum:=by
 induction ks with
 | nil=>simp
 | cons k ks ih=>simp only [List.map_cons,List.sum_cons,List.length_cons]; omega
mutual
theorem Pob.bulk_tot : ∀ o : Pob,o.bulk + 1 ≤ o.tot
 | .mk _ _ _ s ks l=>by
  simp only [Pob.bulk,Pob.tot]
  have:=bulks_tots l
  have:=keys_sum ks
  omega
theorem bulks_tots : ∀ l : List Pob,l.length + bulks l ≤ tots l
 | []=>by simp [bulks,tots]
 | o :: l=>by
  simp only [bulks,tots,List.length_cons]
  have:=Pob.bulk_tot o
  have:=bulks_tots l
  omega
end
structure ObjT (P : Program) (tO tI tL tS tKs tOs : TypeId) : Prop where
 o : ∃ fs,P.underlying tO = some (.struct fs) ∧ fs.toList.map (fun f=>(f.offset,f.type)) = [(0,tI),(1,tL),(2,tI),(3,tS),(4,tKs),(5,tOs)]
 i : P.underlying tI = some (.int .i64)
 l : P.underlying tL = some (.int .i64)
 s : P.underlying tS = some .string
 ks : P.underlying tKs = some (.slice tS)
 os : P.underlying tOs = some (.slice tO)
 c : P.cellsOf tO = 6 ∧ P.cellsOf tI = 1 ∧ P.cellsOf tL = 1 ∧ P.cellsOf tS = 1 ∧ P.cellsOf tKs = 1 ∧ P.cellsOf tOs = 1
section
variable {H : Type} {enc : TypeId × Value → H} {P : Program} {W : World} {tO tI tL tS tKs tOs : TypeId}
theorem Opn.strs (T : ObjT P tO tI tL tS tKs tOs) (N : Nat) : Opn enc P W N tKs (fun l : List (List UInt8)=>[.sl (strsAV l)]) (fun l=>(l.map fun k=>k.length + 1).sum + 1) (fun _=>True):=by
 cases N with
 | zero=>exact Opn.zero
 | succ N =>
  refine Opn.as id (Opn.slice T.ks (by rw [T.c.2.2.2.1]; decide) (Opn.str (N:=N) T.s)) (fun a=>?_) (fun a=>Nat.le_refl _) (fun _ _=>trivial)
  simp [strsAV]
theorem Opn.obj (T : ObjT P tO tI tL tS tKs tOs) (N : Nat) : Opn enc P W N tO Pob.cells Pob.tot Pob.wf:=by
 induction N using Nat.strongRecOn with
 | ind N IH =>
  cases N with
  | zero=>exact Opn.zero
  | succ N =>
   have hos : Opn enc P W N tOs (fun l : List Pob=>[.sl (objsAV l)]) (fun l=>tots l + 1) wfs:=by
    cases N with
    | zero=>exact Opn.zero
    | succ N =>
     refine Opn.as id (Opn.slice T.os (by rw [T.c.1]; decide) (IH N (by omega))) (fun a=>?_) (fun a=>?_) (fun a h=>wfs_of h)
     ·simp [objsAV_map]
     ·rw [tots_map]; exact Nat.le_refl _
   obtain ⟨fs,h1,h2⟩:=T.o
   obtain ⟨c0,c1,c2,c3,c4,c5⟩:=T.c
   refine Opn.as (fun p : Int × Int × Int × List UInt8 × List (List UInt8) × List Pob × Unit=>Pob.mk p.1 p.2.1 p.2.2.1 p.2.2.2.1 p.2.2.2.2.1 p.2.2.2.2.2.1)
    (Opn.struct h1 h2 c0 (OpnF.cons (Opn.int T.i) c1 (OpnF.cons (Opn.int T.l) c2 (OpnF.cons (Opn.int T.i) c1 (OpnF.cons (Opn.str T.s) c3 (OpnF.cons (Opn.strs T N) c4 (OpnF.cons hos c5 OpnF.nil))))))) ?_ ?_ ?_
   ·intro a; simp [Pob.cells]
   ·intro a; simp only [Pob.tot]; omega
   ·intro a ⟨ha,hb,hc,_,_,hl,_⟩
    simp only [Pob.wf]
    exact ⟨wf_i64 ha,wf_i64 hb,wf_i64 hc,hl⟩
end
/-! arguments -/
section
variable {H : Type} {enc : TypeId × Value → H} {P : Program} {W : World} {t : TypeId} {b0 : Nat} {r : Reach} {v : Value} {d : DataW H} {ps : List MemPlace}
theorem Opn.agg {α : Type} {cells : α → List AV} {size : α → Nat} {wf : α → Prop} {fs : Array Field} (ht : P.underlying t = some (.struct fs)) (h : ∀ N,Opn enc P W N t cells size wf) (hval : Value.okWide P W r b0 t v) (hd : DataW.Trod enc P W 0 (fun _=>true) true t v d ps) :
  ∃ a,Rep (gmA W) 1 (.agg (cells a)) v ∧ size a ≤ dbulk d ∧ wf a:=by
 obtain ⟨cs,rfl,_⟩:=okWide_struct ht hval
 obtain ⟨fuel,hf⟩:=hd
 obtain ⟨a,h1,h2,h3⟩:=h fuel fuel _ _ (Nat.le_refl _) hf
 refine ⟨a,?_,h2,h3⟩
 simp only [Rep]
 exact ⟨cs,rfl,RepL.down (by decide) _ _ h1⟩
theorem Opn.sl {α : Type} {av : α → AV} {size : α → Nat} {wf : α → Prop} {e : TypeId} (ht : P.underlying t = some (.slice e)) (h : ∀ N,Opn enc P W N t (fun a=>[av a]) size wf) (hval : Value.okWide P W r b0 t v) (hd : DataW.Trod enc P W 0 (fun _=>true) true t v d ps) :
  ∃ a,Rep (gmA W) 1 (av a) v ∧ size a ≤ dbulk d ∧ wf a:=by
 obtain ⟨A,n,c,rfl⟩:=okWide_slice ht hval
 obtain ⟨fuel,hf⟩:=hd
 obtain ⟨a,h1,h2,h3⟩:=h fuel fuel _ _ (Nat.le_refl _) hf
 refine ⟨a,?_,h2,h3⟩
 simp only [RepL,Value.cells] at h1
 obtain ⟨u,rest,hu,hr,_⟩:=h1
 cases hu
 exact Rep.down (by decide) _ _ hr
end
end Aw

namespace Aw
open Go
theorem incrN_iff {l : List Itm} : incrN l ↔ l.Pairwise (fun a b=>a.num < b.num):=by
 rw [List.pairwise_iff_getElem]
 constructor
 ·intro h i j hi hj hij
  have:=h i j hij hj
  simpa [List.getD,hi,hj] using this
 ·intro h a b hab hb
  have:=h a b (by omega) hb hab
  simpa [List.getD,hb,show a < l.length by omega] using this
theorem incr_one {l : List Itm} (h : incrN l) {x y : Itm} (hx : x ∈ l) (hy : y ∈ l) (hn : x.num = y.num) : x = y:=by
 rw [incrN_iff] at h
 induction l with
 | nil=>cases hx
 | cons a l ih =>
  rw [List.pairwise_cons] at h
  rcases List.mem_cons.1 hx with rfl | hx
  ·rcases List.mem_cons.1 hy with rfl | hy
   ·rfl
   ·have:=h.1 _ hy; omega
  ·rcases List.mem_cons.1 hy with rfl | hy
   ·rename_i hx'
    have:=h.1 _ hx'; omega
   ·exact ih h.2 (by assumption) (by assumption)
theorem getD_mem {l : List Itm} {i : Nat} (h : i < l.length) : l.getD i Itm.zero ∈ l:=by
 simp [List.getD,h]
theorem iidxI_cases (l : List Itm) (n : Int) : (∃ i : Nat,i < l.length ∧ iidxI l n = i ∧ (l.getD i Itm.zero).num = n) ∨ (iidxI l n = -1 ∧ ∀ x ∈ l,x.num ≠ n):=by
 by_cases h : iidx l n < l.length
 ·left
  have h2 : decide (l[iidx l n].num = n) = true:=List.findIdx_getElem (p:=fun x : Itm=>decide (x.num = n)) (w:=h)
  refine ⟨iidx l n,h,?_,?_⟩
  ·unfold iidxI; rw [if_pos h]
  ·rw [show l.getD (iidx l n) Itm.zero = l[iidx l n] by simp [List.getD,h]]; simpa using h2
 ·right
  refine ⟨by unfold iidxI; rw [if_neg h],fun x hx e=>h ?_⟩
  exact List.findIdx_lt_length_of_exists ⟨x,hx,by simpa using e⟩
theorem look_some {l : List Itm} (hs : incrN l) {n : Int} {x : Itm} : lookI l n = some x ↔ x ∈ l ∧ x.num = n:=by
 unfold lookI
 rcases iidxI_cases l n with ⟨i,hi,he,hn⟩ | ⟨he,hn⟩
 ·rw [he,if_neg (by omega),Int.toNat_natCast]
  constructor
  ·intro h
   injection h with h
   subst h
   exact ⟨getD_mem hi,hn⟩
  ·rintro ⟨hx,hxn⟩
   rw [incr_one hs (getD_mem hi) hx (by omega)]
 ·rw [he,if_pos (by decide)]
  constructor
  ·intro h; cases h
  ·rintro ⟨hx,hxn⟩
   exact absurd hxn (hn x hx)
theorem look_none {l : List Itm} {n : Int} : lookI l n = none ↔ ∀ x ∈ l,x.num ≠ n:=by
 unfold lookI
 rcases iidxI_cases l n with ⟨i,hi,he,hn⟩ | ⟨he,hn⟩
 ·rw [he,if_neg (by omega)]
  constructor
  ·intro h; cases h
  ·intro h; exact absurd hn (h _ (getD_mem hi))
 ·rw [he,if_pos (by decide)]
  exact ⟨fun _=>hn,fun _=>rfl⟩
theorem follow_look (d : Dc) (o : Pob) : followO d o = if o.kind ≠ 8 then o else match lookI d.items o.num with
  | none=>Pob.null
  | some x=>if x.gen ≠ o.gen then Pob.null else x.obj:=by
 unfold followO lookI
 split
 ·rfl
 ·split <;> rfl
theorem items_iff {l : List Itm} : itemsE l = 0 ↔ incrN l ∧ ∀ x ∈ l,numsB x = true ∧ contentE x = 0:=by
 constructor
 ·intro h
  refine ⟨items_incr h,fun x hx=>?_⟩
  obtain ⟨j,hj,rfl⟩:=List.getElem_of_mem hx
  have:=items_ok.1 h j hj
  rw [okItm,show l.getD j Itm.zero = l[j] by simp [List.getD,hj]] at this
  exact ⟨this.1,this.2.2⟩
 ·rintro ⟨hs,h⟩
  refine items_ok.2 fun i hi=>?_
  have:=h _ (getD_mem hi)
  refine ⟨this.1,fun h0=>hs (i - 1) i (by omega) hi,this.2⟩
/-! put -/
theorem doc_incr {d : Dc} (h : docE d = 0) : incrN d.items:=items_incr (docE_items h)
theorem last_pos {l : List Itm} (h : itemsE l = 0) : 1 ≤ lastN l:=by
 unfold lastN
 split
 ·omega
 ·have:=((items_iff.1 h).2 _ (getD_mem (l:=l) (i:=l.length - 1) (by omega))).1
  simp only [numsB,Bool.and_eq_true,decide_eq_true_eq] at this
  omega
theorem trail_parts {d : Dc} (h : trailE d = 0) : chk d.trailer 1 = 0 ∧ d.trailer.kind = 7 ∧ trailOk d.trailer.keys ∧ (getO d.trailer rootK).kind = 8 ∧ (followO d (getO d.trailer rootK)).kind = 7:=by
 unfold trailE at h
 repeat' split at h
 all_goals first | omega | simp_all
/-! paths -/
/-! differences -/
end Aw

namespace Aw
open Go Go.RowKit Go.WideShapes Go.ChangeShapes
def Itm.tot (i : Itm) : Nat:=i.obj.tot + 3
def itots (l : List Itm) : Nat:=(l.map Itm.tot).sum
def Dc.tot (d : Dc) : Nat:=itots d.items + d.trailer.tot
def Itm.wf (i : Itm) : Prop:=inI64 i.num ∧ inI64 i.gen ∧ i.obj.wf
def Dc.wf (d : Dc) : Prop:=(∀ i ∈ d.items,i.wf) ∧ d.trailer.wf
theorem ibulk_tot (l : List Itm) : ibulk l ≤ itots l:=by
 induction l with
 | nil=>simp [ibulk,itots]
 | cons i l ih =>
  have:=Pob.bulk_tot i.obj
  simp only [ibulk,itots,List.map_cons,List.sum_cons,Itm.tot] at ih ⊢
  omega
theorem Dc.bulk_tot (d : Dc) : d.bulk ≤ d.tot:=by
 have:=ibulk_tot d.items
 have:=Pob.bulk_tot d.trailer
 simp only [Dc.bulk,Dc.tot]
 omega
theorem keys_size (ks : List (List UInt8)) : ksize ks ≤ (ks.map fun k=>k.length + 1).sum:=by
 unfold ksize
 induction ks with
 | nil=>simp
 | cons k ks ih=>simp only [List.map_cons,List.sum_cons]; omega
mutual
theorem Pob.psize_tot : ∀ o : Pob,o.psize ≤ o.tot
 | .mk _ _ _ s ks l=>by
  simp only [Pob.psize,Pob.tot]
  have:=psizes_tots l
  have:=keys_size ks
  omega
theorem psizes_tots : ∀ l : List Pob,psizes l ≤ tots l
 | []=>by simp only [psizes,tots]; omega
 | o :: l=>by
  simp only [psizes,tots]
  have:=Pob.psize_tot o
  have:=psizes_tots l
  omega
end
theorem isize_tot (l : List Itm) : isize l ≤ itots l:=by
 unfold isize itots
 induction l with
 | nil=>simp
 | cons i l ih =>
  have:=Pob.psize_tot i.obj
  simp only [List.map_cons,List.sum_cons,Itm.tot] at ih ⊢
  omega
theorem Dc.size_tot (d : Dc) : d.size ≤ d.tot:=by
 have:=isize_tot d.items
 have:=Pob.psize_tot d.trailer
 simp only [Dc.size,Dc.tot]
 omega
structure DocT (P : Program) (tO tI tL tS tKs tOs tIt tIts tD : TypeId) : Prop where
 o : ObjT P tO tI tL tS tKs tOs
 it : ∃ fs,P.underlying tIt = some (.struct fs) ∧ fs.toList.map (fun f=>(f.offset,f.type)) = [(0,tI),(1,tI),(2,tO)]
 its : P.underlying tIts = some (.slice tIt)
 d : ∃ fs,P.underlying tD = some (.struct fs) ∧ fs.toList.map (fun f=>(f.offset,f.type)) = [(0,tIts),(1,tO)]
 c : P.cellsOf tIt = 8 ∧ P.cellsOf tIts = 1 ∧ P.cellsOf tD = 7
section
variable {H : Type} {enc : TypeId × Value → H} {P : Program} {W : World} {tO tI tL tS tKs tOs tIt tIts tD : TypeId}
theorem Opn.item (T : DocT P tO tI tL tS tKs tOs tIt tIts tD) (N : Nat) : Opn enc P W N tIt Itm.cells Itm.tot Itm.wf:=by
 cases N with
 | zero=>exact Opn.zero
 | succ N =>
  obtain ⟨fs,h1,h2⟩:=T.it
  obtain ⟨c0,c1,c2,c3,c4,c5⟩:=T.o.c
  refine Opn.as (fun p : Int × Int × Pob × Unit=>Itm.mk p.1 p.2.1 p.2.2.1)
   (Opn.struct h1 h2 T.c.1 (OpnF.cons (Opn.int T.o.i) c1 (OpnF.cons (Opn.int T.o.i) c1 (OpnF.cons (Opn.obj T.o N) c0 OpnF.nil)))) ?_ ?_ ?_
  ·intro a; simp [Itm.cells,Pob.cells_eq]
  ·intro a; simp only [Itm.tot]; omega
  ·intro a ⟨ha,hb,hc,_⟩
   exact ⟨wf_i64 ha,wf_i64 hb,hc⟩
theorem Opn.items (T : DocT P tO tI tL tS tKs tOs tIt tIts tD) (N : Nat) : Opn enc P W N tIts (fun l : List Itm=>[.sl (itemsAV l)]) (fun l=>itots l + 1) (fun l=>∀ i ∈ l,i.wf):=by
 cases N with
 | zero=>exact Opn.zero
 | succ N=>exact Opn.slice T.its (by rw [T.c.1]; decide) (Opn.item T N)
theorem Opn.doc (T : DocT P tO tI tL tS tKs tOs tIt tIts tD) (N : Nat) : Opn enc P W N tD Dc.cells Dc.tot Dc.wf:=by
 cases N with
 | zero=>exact Opn.zero
 | succ N =>
  obtain ⟨fs,h1,h2⟩:=T.d
  obtain ⟨c0,c1,c2,c3,c4,c5⟩:=T.o.c
  refine Opn.as (fun p : List Itm × Pob × Unit=>Dc.mk p.1 p.2.1)
   (Opn.struct h1 h2 T.c.2.2 (OpnF.cons (Opn.items T N) T.c.2.1 (OpnF.cons (Opn.obj T.o N) c0 OpnF.nil))) ?_ ?_ ?_
  ·intro a; simp [Dc.cells,Pob.cells_eq]
  ·intro a; simp only [Dc.tot]; omega
  ·intro a ⟨ha,hb,_⟩
   exact ⟨ha,hb⟩
end
end Aw

set_option linter.unusedVariables false
set_option linter.unusedSimpArgs false
namespace Aw
open Go
theorem use_split (o : Pob) (d : Int) : useB o d = (useB o 1 && (decide (d = 1) || !decide (o.kind = 9))):=by
 unfold useB
 cases (bif bif bif bif bif uOk o.kind then bif uN o.kind then true else decide (o.num = 0) else false then bif uG o.kind then true else decide (o.gen = 0) else false then bif uS o.kind then true else decide (o.str = []) else false
  then bif uKeys o.kind then true else decide ((o.keys.length : Int) = 0) else false then bif uKids o.kind then true else decide ((o.kids.length : Int) = 0) else false) <;> simp
theorem own_deep {o : Pob} {d : Int} (h : 24 < d) : chk o d = 7:=chk_bad (by unfold ownE; rw [if_pos (by omega)]) (by decide)
theorem own_use {o : Pob} {d : Int} (h : ¬ 24 < d) (h' : useB o d = false) : chk o d = 10:=chk_bad (by unfold ownE; rw [if_neg (by omega),if_pos h']) (by decide)
theorem own_fits {o : Pob} {d : Int} (h : ¬ 24 < d) (h1 : useB o d = true) (h' : fitsB o = false) : chk o d = 2:=chk_bad (by unfold ownE; rw [if_neg (by omega),if_neg (by simp [h1]),if_pos h']) (by decide)
theorem own_long {o : Pob} {d : Int} (h : ¬ 24 < d) (h1 : useB o d = true) (h2 : fitsB o = true) (h' : shortB o = false) : chk o d = 5:=chk_bad (by unfold ownE; rw [if_neg (by omega),if_neg (by simp [h1]),if_neg (by simp [h2]),if_pos h']) (by decide)
theorem own_many {o : Pob} {d : Int} (h : ¬ 24 < d) (h1 : useB o d = true) (h2 : fitsB o = true) (h3 : shortB o = true) (h' : 8191 < (o.kids.length : Int)) : chk o d = 6:=chk_bad (by unfold ownE; rw [if_neg (by omega),if_neg (by simp [h1]),if_neg (by simp [h2]),if_neg (by simp [h3]),if_pos (by omega)]) (by decide)
theorem own_form {o : Pob} {d : Int} (h : ¬ 24 < d) (h1 : useB o d = true) (h2 : fitsB o = true) (h3 : shortB o = true) (h4 : ¬ 8191 < (o.kids.length : Int)) (h' : formB o = false) : chk o d = 3:=chk_bad (by unfold ownE; rw [if_neg (by omega),if_neg (by simp [h1]),if_neg (by simp [h2]),if_neg (by simp [h3]),if_neg (by omega),if_pos h']) (by decide)
theorem own_ok {o : Pob} {d : Int} (h : ¬ 24 < d) (h1 : useB o d = true) (h2 : fitsB o = true) (h3 : shortB o = true) (h4 : ¬ 8191 < (o.kids.length : Int)) (h' : formB o = true) : chk o d = chkL o.kids (d + 1):=by
 rw [chk_eq,if_pos]
 unfold ownE
 rw [if_neg (by omega),if_neg (by simp [h1]),if_neg (by simp [h2]),if_neg (by simp [h3]),if_neg (by omega),if_neg (by simp [h'])]
def longN (k : Int) : Int:=if k = 5 then 127 else if k = 9 then 1048576 else 32767
theorem short_ref {o : Pob} (hu : useB o 1 = true) : shortB o = decide ((o.str.length : Int) ≤ longN o.kind):=by
 by_cases h4 : o.kind = 4
 ·simp [shortB,longN,h4]
 by_cases h5 : o.kind = 5
 ·simp [shortB,longN,h5]
 by_cases h9 : o.kind = 9
 ·simp [shortB,longN,h9]
 have hs : o.str = []:=by
  have hb : uS o.kind = false:=by simp [uS,h4,h5,h9]
  unfold useB at hu
  rw [hb] at hu
  cases hc : decide (o.str = []) with
  | true=>simpa using hc
  | false=>rw [hc] at hu; revert hu; cases (bif bif bif uOk o.kind then bif uN o.kind then true else decide (o.num = 0) else false then bif uG o.kind then true else decide (o.gen = 0) else false then true else false) <;> simp
 simp only [shortB,longN,if_neg h4,if_neg h5,if_neg h9,hs]
 simp
theorem form_name {o : Pob} (h : o.kind = 5) : formB o = nameB o.str:=by
 have : uKeys 5 = false:=rfl
 simp [formB,h,this]
theorem form_none {o : Pob} (h : ¬ o.kind = 5) (h7 : ¬ o.kind = 7) (h9 : ¬ o.kind = 9) : formB o = true:=by
 have : uKeys o.kind = false:=by simp [uKeys,h7,h9]
 simp [formB,h,this]
theorem form_keys {o : Pob} (h7 : o.kind = 7 ∨ o.kind = 9) : formB o = risingB o:=by
 have : uKeys o.kind = true:=by simpa [uKeys] using h7
 have h5 : ¬ o.kind = 5:=by omega
 simp [formB,h5,this]
/-! sizes -/
theorem Pob.tot_eq (o : Pob) : o.tot = o.str.length + (o.keys.map fun k=>k.length + 1).sum + tots o.kids + 7:=by cases o; simp only [Pob.tot,Pob.str,Pob.keys,Pob.kids]
theorem tots_get : ∀ {l : List Pob} {i : Nat},i < l.length → (l.getD i Pob.null).tot ≤ tots l
 | o :: l,0,_=>by simp [tots]
 | o :: l,i + 1,h=>by
  have:=tots_get (l:=l) (i:=i) (by simpa using h)
  simp only [List.getD_cons_succ,tots]
  omega
theorem Pob.tot_kid {o : Pob} {i : Nat} (h : i < o.kids.length) : (o.kids.getD i Pob.null).tot + 7 ≤ o.tot:=by
 have:=Pob.tot_eq o
 have:=tots_get h
 omega
theorem ktot_get : ∀ {l : List (List UInt8)} {i : Nat},i < l.length → (l.getD i []).length + 1 ≤ (l.map fun k=>k.length + 1).sum
 | k :: l,0,_=>by simp
 | k :: l,i + 1,h=>by
  have:=ktot_get (l:=l) (i:=i) (by simpa using h)
  simp only [List.getD_cons_succ,List.map_cons,List.sum_cons]
  omega
theorem Pob.tot_key {o : Pob} {i : Nat} (h : i < o.keys.length) : (o.keys.getD i []).length + 8 ≤ o.tot:=by
 have:=Pob.tot_eq o
 have:=ktot_get h
 omega
theorem Pob.tot_str (o : Pob) : o.str.length + 7 ≤ o.tot:=by
 have:=Pob.tot_eq o
 omega
end Aw

namespace Go.Proofs
open Go Aw
set_option linter.unusedSimpArgs false
set_option linter.unusedVariables false
set_option maxRecDepth 100000
set_option maxHeartbeats 4000000
attribute [local go_sem] take_strsAV app1_strsAV take_intsAV drop_intsAV app_intsAV app1_intsAV take_objsAV app1_objsAV
theorem c_foliantref05_Num (gl : List (Nat × AV)) (l : List Int) (n : Int) (hl : l.length ≤ 16777000:=by first | omega | exact u8_le _ | assumption | (simp; done) | (simp; omega)) : FnP Tryz.prog (gl) 54 [.sl (intsAV l),.int .i64 n] fun r=>r = .ret (.sl (intsAV (numIns l n))):=by
 refine FnP.intro Tryz.func54 rfl rfl (by simp [Tryz.ntmps54]) ?_
 simp only [argEnv,Tryz.ntmps54,Tryz.results54]
 refine AW.rS ?_
 refine AW.rS ?_
 refine AW.seq ?_
 refine AW.block ?_
 refine AW.lk (S:={ i : Nat // i ≤ l.length ∧ ∀ j,j < i → l.getD j 0 < n }) [0,1] (fun s_=>[(5,.int .i64 s_.1)]) (fun s_=>[]) 0 (fun s_=>l.length - s_.1) ⟨0,Nat.zero_le _,fun j h=>absurd h (by omega)⟩ ?_ ?_
 ·refine St.le.vw []
 rintro ⟨i,hi,hs⟩
 try dsimp only at hi
 try dsimp only at hs
 refine AW.seq ?_
 by_cases hs7 : i < l.length
 ·skip
  refine AW.rS ?_
  refine AW.c2 ?_ ?_
  ·intro h8
   refine AW.skip ?_
   refine AW.block ?_
   refine AW.rL ?_
   refine ⟨⟨i + 1,by omega,fun j hj=>(Nat.lt_or_ge j i).elim (hs j) (fun h=>(show j = i by omega) ▸ (by have:=h8; simp at this; simpa using this.2))⟩,?_,?_⟩
   ·refine St.le.vw []
   ·simp only []; omega
  ·intro h8
   refine AW.exit ?_
   have hp:=nplace_eq (l:=l) (n:=n) hi hs (fun _=>by have:=h8.elim (fun h=>absurd hs7 h) id; omega)
   refine AW.seq ?_
   refine AW.rS ?_
   refine AW.c2 ?_ ?_
   ·intro h16
    refine AW.rS ?_
    refine AW.rt ?_
    unfold numIns
    rw [hp,if_pos h16]
   ·intro h16
    refine AW.skip ?_
    have e : numIns l n = l.take i ++ [n] ++ l.drop i:=by unfold numIns; rw [hp,if_neg (fun h=>h16.elim (fun h1=>h1 hs7) (fun h2=>h2 h.2))]
    refine AW.tS (.take 1 0 (.take 2 0 (.take 3 0 (.take 5 0 (.take 8 0 (.take 9 0 (.take 10 0 (.fork 0 (.fork 4 (.fork 6 (.fork 7 (.fork 11 (.take 12 0 .done) .stop) .stop) .stop) (.fork 6 (.fork 4 (.fork 7 (.fork 11 (.take 12 0 .done) .stop) .stop) .stop) .stop)) (.fork 6 (.fork 0 (.fork 4 (.fork 7 (.fork 11 (.take 12 0 .done) .stop) .stop) .stop) .stop) .stop))))))))) ?_
    intro σ' hσ
    simp only [List.map_cons,List.map_nil,List.mem_cons,List.not_mem_nil,or_false] at hσ
    rcases hσ with rfl | rfl | rfl
    all_goals
     simp only [St.norm,sortE,insE]
     refine AW.rt ?_
     rw [e]
     simp [Nat.min_eq_left hi,List.take_of_length_le]
     refine ⟨by omega,?_⟩
     rw [List.take_of_length_le (by simp; omega)]
 ·skip
  refine AW.rS ?_
  refine AW.c2 ?_ ?_
  ·intro h8
   exfalso
   simp at h8
   try omega
  ·intro h8
   refine AW.exit ?_
   have hp:=nplace_eq (l:=l) (n:=n) hi hs (fun h=>absurd h (by omega))
   refine AW.seq ?_
   refine AW.rS ?_
   refine AW.c2 ?_ ?_
   ·intro h16
    exfalso
    simp at h16
    try omega
   ·intro h16
    refine AW.skip ?_
    have e : numIns l n = l.take i ++ [n] ++ l.drop i:=by unfold numIns; rw [hp,if_neg (fun h=>hs7 h.1)]
    refine AW.tS (.take 1 0 (.take 2 0 (.take 3 0 (.take 5 0 (.take 8 0 (.take 9 0 (.take 10 0 (.fork 0 (.fork 4 (.fork 6 (.fork 7 (.fork 11 (.take 12 0 .done) .stop) .stop) .stop) (.fork 6 (.fork 4 (.fork 7 (.fork 11 (.take 12 0 .done) .stop) .stop) .stop) .stop)) (.fork 6 (.fork 0 (.fork 4 (.fork 7 (.fork 11 (.take 12 0 .done) .stop) .stop) .stop) .stop) .stop))))))))) ?_
    intro σ' hσ
    simp only [List.map_cons,List.map_nil,List.mem_cons,List.not_mem_nil,or_false] at hσ
    rcases hσ with rfl | rfl | rfl
    all_goals
     simp only [St.norm,sortE,insE]
     refine AW.rt ?_
     rw [e]
     simp [Nat.min_eq_left hi,List.take_of_length_le]
     refine ⟨by omega,?_⟩
     rw [List.take_of_length_le (by simp; omega)]
end Go.Proofs

namespace Go.Proofs
open Go Aw
set_option linter.unusedSimpArgs false
set_option linter.unusedVariables false
set_option maxRecDepth 100000
set_option maxHeartbeats 4000000
theorem c_foliantref05_Name (gl : List (Nat × AV)) (s : List UInt8) (hl : s.length ≤ 16777216:=by first | omega | exact u8_le _ | assumption | (simp; done) | (simp; omega)) : FnP Tryz.prog (gl) 107 [.str s] fun r=>r = .ret (.bool (nameB s)):=by
 refine FnP.intro Tryz.func107 rfl rfl (by simp [Tryz.ntmps107]) ?_
 simp only [argEnv,Tryz.ntmps107,Tryz.results107]
 refine AW.rS ?_
 refine AW.seq ?_
 refine AW.rS ?_
 refine AW.block ?_
 refine AW.lk (S:={ i : Nat // i ≤ s.length ∧ ∀ j,j < i → s.getD j 0 ≠ 0 }) [0] (fun s_=>[(3,.int .i64 s_.1)]) (fun s_=>[]) 0 (fun s_=>s.length - s_.1) ⟨0,Nat.zero_le _,fun j h=>absurd h (by omega)⟩ ?_ ?_
 ·refine St.le.vw []
 rintro ⟨i,hi,hs⟩
 try dsimp only at hi
 try dsimp only at hs
 refine AW.seq ?_
 refine AW.rS ?_
 refine AW.c2 ?_ ?_
 ·intro h8
  refine AW.skip ?_
  refine AW.seq ?_
  refine AW.block ?_
  refine AW.rS ?_
  refine AW.c2 ?_ ?_
  ·intro h13
   refine AW.rS ?_
   refine AW.rt ?_
   rw [nameB_no h8 (by simpa [← UInt8.toNat_inj] using h13)]
  ·intro h13
   refine AW.skip ?_
   refine AW.rL ?_
   refine ⟨⟨i + 1,by omega,fun j hj=>(Nat.lt_or_ge j i).elim (hs j) (fun h=>(show j = i by omega) ▸ (by simpa [← UInt8.toNat_inj] using h13))⟩,?_,?_⟩
   ·refine St.le.vw []
   ·simp only []; omega
 ·intro h8
  refine AW.exit ?_
  refine AW.rS ?_
  refine AW.rt ?_
  rw [nameB_all (fun j hj=>hs j (by omega))]
theorem c_foliantref05_zero (gl : List (Nat × AV)) (o : Pob) (n g s l : Bool) : FnP Tryz.prog (gl) 106 [.agg o.cells,.bool n,.bool g,.bool s,.bool l] fun r=>r = .ret (.bool ((n || decide (o.num = 0)) && (g || decide (o.gen = 0)) && (s || decide (o.str = [])) && (l || (decide ((o.keys.length : Int) = 0) && decide ((o.kids.length : Int) = 0))))):=by
 refine FnP.intro Tryz.func106 rfl rfl (by simp [Tryz.ntmps106]) ?_
 simp only [argEnv,Tryz.ntmps106,Tryz.results106]
 refine AW.rS ?_
 refine AW.rS ?_
 refine AW.rt ?_
 cases n <;> cases g <;> cases s <;> cases l <;> simp
theorem c_foliantref05_uses (gl : List (Nat × AV)) (o : Pob) : FnP Tryz.prog (gl) 82 [.agg o.cells] fun r=>r = .ret (.bool (useB o 1)):=by
 refine FnP.intro Tryz.func82 rfl rfl (by simp [Tryz.ntmps82]) ?_
 simp only [argEnv,Tryz.ntmps82,Tryz.results82]
 refine AW.rS ?_
 refine AW.seq ?_
 refine AW.rS ?_
 refine AW.block ?_
 refine AW.rS ?_
 refine AW.c2 ?_ ?_
 ·intro h6
  refine AW.rSC ?_
  refine awOps.cons (awGuard.c1 (c_foliantref05_zero _ o false false false false) ?_)
  refine awOps.rn ?_
  refine AW.rt ?_
  first | (simp_all [useB,uN,uG,uS,uKeys,uKids,uOk,Bool.and_assoc]; done) | (simp_all [useB,uN,uG,uS,uKeys,uKids,uOk]; omega)
 ·intro h6
  refine AW.seq ?_
  refine AW.rS ?_
  refine AW.c2 ?_ ?_
  ·intro h14
   refine AW.skip ?_
   refine AW.c2 ?_ ?_
   ·intro h16
    refine AW.rSC ?_
    refine awOps.cons (awGuard.c1 (c_foliantref05_zero _ o true false false false) ?_)
    refine awOps.rn ?_
    refine AW.rt ?_
    first | (simp_all [useB,uN,uG,uS,uKeys,uKids,uOk,Bool.and_assoc]; done) | (simp_all [useB,uN,uG,uS,uKeys,uKids,uOk]; omega)
   ·intro h16
    refine AW.seq ?_
    refine AW.rS ?_
    refine AW.c2 ?_ ?_
    ·intro h24
     refine AW.skip ?_
     refine AW.c2 ?_ ?_
     ·intro h26
      refine AW.rSC ?_
      refine awOps.cons (awGuard.c1 (c_foliantref05_zero _ o false false true false) ?_)
      refine awOps.rn ?_
      refine AW.rt ?_
      first | (simp_all [useB,uN,uG,uS,uKeys,uKids,uOk,Bool.and_assoc]; done) | (simp_all [useB,uN,uG,uS,uKeys,uKids,uOk]; omega)
     ·intro h26
      refine AW.rS ?_
      refine AW.c2 ?_ ?_
      ·intro h33
       refine AW.rSC ?_
       refine awOps.cons (awGuard.c1 (c_foliantref05_zero _ o false false false true) ?_)
       refine awOps.rn ?_
       refine AW.rt ?_
       first | (simp_all [useB,uN,uG,uS,uKeys,uKids,uOk,Bool.and_assoc]; done) | (simp_all [useB,uN,uG,uS,uKeys,uKids,uOk]; omega)
      ·intro h33
       refine AW.rS ?_
       refine AW.c2 ?_ ?_
       ·intro h40
        refine AW.rSC ?_
        refine awOps.cons (awGuard.c1 (c_foliantref05_zero ..) ?_)
        refine awOps.rn ?_
        refine AW.rt ?_
        first | (simp_all [useB,uN,uG,uS,uKeys,uKids,uOk,Bool.and_assoc]; done) | (simp_all [useB,uN,uG,uS,uKeys,uKids,uOk]; omega)
       ·intro h40
        refine AW.rS ?_
        refine AW.c2 ?_ ?_
        ·intro h47
         refine AW.rSC ?_
         refine awOps.cons (awGuard.c1 (c_foliantref05_zero ..) ?_)
         refine awOps.rn ?_
         refine AW.rt ?_
         first | (simp_all [useB,uN,uG,uS,uKeys,uKids,uOk,Bool.and_assoc]; done) | (simp_all [useB,uN,uG,uS,uKeys,uKids,uOk]; omega)
        ·intro h47
         refine AW.rS ?_
         refine AW.c2 ?_ ?_
         ·intro h54
          refine AW.rSC ?_
          refine awOps.cons (awGuard.c1 (c_foliantref05_zero ..) ?_)
          refine awOps.rn ?_
          refine AW.rt ?_
          first | (simp_all [useB,uN,uG,uS,uKeys,uKids,uOk,Bool.and_assoc]; done) | (simp_all [useB,uN,uG,uS,uKeys,uKids,uOk]; omega)
         ·intro h54
          refine AW.skip ?_
          refine AW.rS ?_
          refine AW.rt ?_
          first | (simp_all [useB,uN,uG,uS,uKeys,uKids,uOk,Bool.and_assoc]; done) | (simp_all [useB,uN,uG,uS,uKeys,uKids,uOk]; omega)
    ·intro h24
     refine AW.rL ?_
     refine AW.c2 ?_ ?_
     ·intro h65
      refine AW.rSC ?_
      refine awOps.cons (awGuard.c1 (c_foliantref05_zero ..) ?_)
      refine awOps.rn ?_
      refine AW.rt ?_
      first | (simp_all [useB,uN,uG,uS,uKeys,uKids,uOk,Bool.and_assoc]; done) | (simp_all [useB,uN,uG,uS,uKeys,uKids,uOk]; omega)
     ·intro h65
      refine AW.rS ?_
      refine AW.c2 ?_ ?_
      ·intro h72
       refine AW.rSC ?_
       refine awOps.cons (awGuard.c1 (c_foliantref05_zero ..) ?_)
       refine awOps.rn ?_
       refine AW.rt ?_
       first | (simp_all [useB,uN,uG,uS,uKeys,uKids,uOk,Bool.and_assoc]; done) | (simp_all [useB,uN,uG,uS,uKeys,uKids,uOk]; omega)
      ·intro h72
       refine AW.rS ?_
       refine AW.c2 ?_ ?_
       ·intro h79
        refine AW.rSC ?_
        refine awOps.cons (awGuard.c1 (c_foliantref05_zero ..) ?_)
        refine awOps.rn ?_
        refine AW.rt ?_
        first | (simp_all [useB,uN,uG,uS,uKeys,uKids,uOk,Bool.and_assoc]; done) | (simp_all [useB,uN,uG,uS,uKeys,uKids,uOk]; omega)
       ·intro h79
        refine AW.rS ?_
        refine AW.c2 ?_ ?_
        ·intro h86
         refine AW.rSC ?_
         refine awOps.cons (awGuard.c1 (c_foliantref05_zero ..) ?_)
         refine awOps.rn ?_
         refine AW.rt ?_
         first | (simp_all [useB,uN,uG,uS,uKeys,uKids,uOk,Bool.and_assoc]; done) | (simp_all [useB,uN,uG,uS,uKeys,uKids,uOk]; omega)
        ·intro h86
         refine AW.rS ?_
         refine AW.c2 ?_ ?_
         ·intro h93
          refine AW.rSC ?_
          refine awOps.cons (awGuard.c1 (c_foliantref05_zero ..) ?_)
          refine awOps.rn ?_
          refine AW.rt ?_
          first | (simp_all [useB,uN,uG,uS,uKeys,uKids,uOk,Bool.and_assoc]; done) | (simp_all [useB,uN,uG,uS,uKeys,uKids,uOk]; omega)
         ·intro h93
          refine AW.skip ?_
          refine AW.rS ?_
          refine AW.rt ?_
          first | (simp_all [useB,uN,uG,uS,uKeys,uKids,uOk,Bool.and_assoc]; done) | (simp_all [useB,uN,uG,uS,uKeys,uKids,uOk]; omega)
  ·intro h14
   refine AW.rS ?_
   refine AW.c2 ?_ ?_
   ·intro h104
    refine AW.skip ?_
    refine AW.c2 ?_ ?_
    ·intro h106
     refine AW.rSC ?_
     refine awOps.cons (awGuard.c1 (c_foliantref05_zero ..) ?_)
     refine awOps.rn ?_
     refine AW.rt ?_
     first | (simp_all [useB,uN,uG,uS,uKeys,uKids,uOk,Bool.and_assoc]; done) | (simp_all [useB,uN,uG,uS,uKeys,uKids,uOk]; omega)
    ·intro h106
     refine AW.seq ?_
     refine AW.rS ?_
     refine AW.c2 ?_ ?_
     ·intro h114
      refine AW.skip ?_
      refine AW.c2 ?_ ?_
      ·intro h116
       refine AW.rSC ?_
       refine awOps.cons (awGuard.c1 (c_foliantref05_zero ..) ?_)
       refine awOps.rn ?_
       refine AW.rt ?_
       first | (simp_all [useB,uN,uG,uS,uKeys,uKids,uOk,Bool.and_assoc]; done) | (simp_all [useB,uN,uG,uS,uKeys,uKids,uOk]; omega)
      ·intro h116
       refine AW.rS ?_
       refine AW.c2 ?_ ?_
       ·intro h123
        refine AW.rSC ?_
        refine awOps.cons (awGuard.c1 (c_foliantref05_zero ..) ?_)
        refine awOps.rn ?_
        refine AW.rt ?_
        first | (simp_all [useB,uN,uG,uS,uKeys,uKids,uOk,Bool.and_assoc]; done) | (simp_all [useB,uN,uG,uS,uKeys,uKids,uOk]; omega)
       ·intro h123
        refine AW.rS ?_
        refine AW.c2 ?_ ?_
        ·intro h130
         refine AW.rSC ?_
         refine awOps.cons (awGuard.c1 (c_foliantref05_zero ..) ?_)
         refine awOps.rn ?_
         refine AW.rt ?_
         first | (simp_all [useB,uN,uG,uS,uKeys,uKids,uOk,Bool.and_assoc]; done) | (simp_all [useB,uN,uG,uS,uKeys,uKids,uOk]; omega)
        ·intro h130
         refine AW.rS ?_
         refine AW.c2 ?_ ?_
         ·intro h137
          refine AW.rSC ?_
          refine awOps.cons (awGuard.c1 (c_foliantref05_zero ..) ?_)
          refine awOps.rn ?_
          refine AW.rt ?_
          first | (simp_all [useB,uN,uG,uS,uKeys,uKids,uOk,Bool.and_assoc]; done) | (simp_all [useB,uN,uG,uS,uKeys,uKids,uOk]; omega)
         ·intro h137
          refine AW.rS ?_
          refine AW.c2 ?_ ?_
          ·intro h144
           refine AW.rSC ?_
           refine awOps.cons (awGuard.c1 (c_foliantref05_zero ..) ?_)
           refine awOps.rn ?_
           refine AW.rt ?_
           first | (simp_all [useB,uN,uG,uS,uKeys,uKids,uOk,Bool.and_assoc]; done) | (simp_all [useB,uN,uG,uS,uKeys,uKids,uOk]; omega)
          ·intro h144
           refine AW.skip ?_
           refine AW.rS ?_
           refine AW.rt ?_
           first | (simp_all [useB,uN,uG,uS,uKeys,uKids,uOk,Bool.and_assoc]; done) | (simp_all [useB,uN,uG,uS,uKeys,uKids,uOk]; omega)
     ·intro h114
      refine AW.rL ?_
      refine AW.c2 ?_ ?_
      ·intro h155
       refine AW.rSC ?_
       refine awOps.cons (awGuard.c1 (c_foliantref05_zero ..) ?_)
       refine awOps.rn ?_
       refine AW.rt ?_
       first | (simp_all [useB,uN,uG,uS,uKeys,uKids,uOk,Bool.and_assoc]; done) | (simp_all [useB,uN,uG,uS,uKeys,uKids,uOk]; omega)
      ·intro h155
       refine AW.rS ?_
       refine AW.c2 ?_ ?_
       ·intro h162
        refine AW.rSC ?_
        refine awOps.cons (awGuard.c1 (c_foliantref05_zero ..) ?_)
        refine awOps.rn ?_
        refine AW.rt ?_
        first | (simp_all [useB,uN,uG,uS,uKeys,uKids,uOk,Bool.and_assoc]; done) | (simp_all [useB,uN,uG,uS,uKeys,uKids,uOk]; omega)
       ·intro h162
        refine AW.rS ?_
        refine AW.c2 ?_ ?_
        ·intro h169
         refine AW.rSC ?_
         refine awOps.cons (awGuard.c1 (c_foliantref05_zero ..) ?_)
         refine awOps.rn ?_
         refine AW.rt ?_
         first | (simp_all [useB,uN,uG,uS,uKeys,uKids,uOk,Bool.and_assoc]; done) | (simp_all [useB,uN,uG,uS,uKeys,uKids,uOk]; omega)
        ·intro h169
         refine AW.rS ?_
         refine AW.c2 ?_ ?_
         ·intro h176
          refine AW.rSC ?_
          refine awOps.cons (awGuard.c1 (c_foliantref05_zero ..) ?_)
          refine awOps.rn ?_
          refine AW.rt ?_
          first | (simp_all [useB,uN,uG,uS,uKeys,uKids,uOk,Bool.and_assoc]; done) | (simp_all [useB,uN,uG,uS,uKeys,uKids,uOk]; omega)
         ·intro h176
          refine AW.rS ?_
          refine AW.c2 ?_ ?_
          ·intro h183
           refine AW.rSC ?_
           refine awOps.cons (awGuard.c1 (c_foliantref05_zero ..) ?_)
           refine awOps.rn ?_
           refine AW.rt ?_
           first | (simp_all [useB,uN,uG,uS,uKeys,uKids,uOk,Bool.and_assoc]; done) | (simp_all [useB,uN,uG,uS,uKeys,uKids,uOk]; omega)
          ·intro h183
           refine AW.skip ?_
           refine AW.rS ?_
           refine AW.rt ?_
           first | (simp_all [useB,uN,uG,uS,uKeys,uKids,uOk,Bool.and_assoc]; done) | (simp_all [useB,uN,uG,uS,uKeys,uKids,uOk]; omega)
   ·intro h104
    refine AW.rL ?_
    refine AW.c2 ?_ ?_
    ·intro h194
     refine AW.rSC ?_
     refine awOps.cons (awGuard.c1 (c_foliantref05_zero ..) ?_)
     refine awOps.rn ?_
     refine AW.rt ?_
     first | (simp_all [useB,uN,uG,uS,uKeys,uKids,uOk,Bool.and_assoc]; done) | (simp_all [useB,uN,uG,uS,uKeys,uKids,uOk]; omega)
    ·intro h194
     refine AW.seq ?_
     refine AW.rS ?_
     refine AW.c2 ?_ ?_
     ·intro h202
      refine AW.skip ?_
      refine AW.c2 ?_ ?_
      ·intro h204
       refine AW.rSC ?_
       refine awOps.cons (awGuard.c1 (c_foliantref05_zero ..) ?_)
       refine awOps.rn ?_
       refine AW.rt ?_
       first | (simp_all [useB,uN,uG,uS,uKeys,uKids,uOk,Bool.and_assoc]; done) | (simp_all [useB,uN,uG,uS,uKeys,uKids,uOk]; omega)
      ·intro h204
       refine AW.rS ?_
       refine AW.c2 ?_ ?_
       ·intro h211
        refine AW.rSC ?_
        refine awOps.cons (awGuard.c1 (c_foliantref05_zero ..) ?_)
        refine awOps.rn ?_
        refine AW.rt ?_
        first | (simp_all [useB,uN,uG,uS,uKeys,uKids,uOk,Bool.and_assoc]; done) | (simp_all [useB,uN,uG,uS,uKeys,uKids,uOk]; omega)
       ·intro h211
        refine AW.rS ?_
        refine AW.c2 ?_ ?_
        ·intro h218
         refine AW.rSC ?_
         refine awOps.cons (awGuard.c1 (c_foliantref05_zero ..) ?_)
         refine awOps.rn ?_
         refine AW.rt ?_
         first | (simp_all [useB,uN,uG,uS,uKeys,uKids,uOk,Bool.and_assoc]; done) | (simp_all [useB,uN,uG,uS,uKeys,uKids,uOk]; omega)
        ·intro h218
         refine AW.rS ?_
         refine AW.c2 ?_ ?_
         ·intro h225
          refine AW.rSC ?_
          refine awOps.cons (awGuard.c1 (c_foliantref05_zero ..) ?_)
          refine awOps.rn ?_
          refine AW.rt ?_
          first | (simp_all [useB,uN,uG,uS,uKeys,uKids,uOk,Bool.and_assoc]; done) | (simp_all [useB,uN,uG,uS,uKeys,uKids,uOk]; omega)
         ·intro h225
          refine AW.rS ?_
          refine AW.c2 ?_ ?_
          ·intro h232
           refine AW.rSC ?_
           refine awOps.cons (awGuard.c1 (c_foliantref05_zero ..) ?_)
           refine awOps.rn ?_
           refine AW.rt ?_
           first | (simp_all [useB,uN,uG,uS,uKeys,uKids,uOk,Bool.and_assoc]; done) | (simp_all [useB,uN,uG,uS,uKeys,uKids,uOk]; omega)
          ·intro h232
           refine AW.skip ?_
           refine AW.rS ?_
           refine AW.rt ?_
           first | (simp_all [useB,uN,uG,uS,uKeys,uKids,uOk,Bool.and_assoc]; done) | (simp_all [useB,uN,uG,uS,uKeys,uKids,uOk]; omega)
     ·intro h202
      refine AW.rL ?_
      refine AW.c2 ?_ ?_
      ·intro h243
       refine AW.rSC ?_
       refine awOps.cons (awGuard.c1 (c_foliantref05_zero ..) ?_)
       refine awOps.rn ?_
       refine AW.rt ?_
       first | (simp_all [useB,uN,uG,uS,uKeys,uKids,uOk,Bool.and_assoc]; done) | (simp_all [useB,uN,uG,uS,uKeys,uKids,uOk]; omega)
      ·intro h243
       refine AW.rS ?_
       refine AW.c2 ?_ ?_
       ·intro h250
        refine AW.rSC ?_
        refine awOps.cons (awGuard.c1 (c_foliantref05_zero ..) ?_)
        refine awOps.rn ?_
        refine AW.rt ?_
        first | (simp_all [useB,uN,uG,uS,uKeys,uKids,uOk,Bool.and_assoc]; done) | (simp_all [useB,uN,uG,uS,uKeys,uKids,uOk]; omega)
       ·intro h250
        refine AW.rS ?_
        refine AW.c2 ?_ ?_
        ·intro h257
         refine AW.rSC ?_
         refine awOps.cons (awGuard.c1 (c_foliantref05_zero ..) ?_)
         refine awOps.rn ?_
         refine AW.rt ?_
         first | (simp_all [useB,uN,uG,uS,uKeys,uKids,uOk,Bool.and_assoc]; done) | (simp_all [useB,uN,uG,uS,uKeys,uKids,uOk]; omega)
        ·intro h257
         refine AW.rS ?_
         refine AW.c2 ?_ ?_
         ·intro h264
          refine AW.rSC ?_
          refine awOps.cons (awGuard.c1 (c_foliantref05_zero ..) ?_)
          refine awOps.rn ?_
          refine AW.rt ?_
          first | (simp_all [useB,uN,uG,uS,uKeys,uKids,uOk,Bool.and_assoc]; done) | (simp_all [useB,uN,uG,uS,uKeys,uKids,uOk]; omega)
         ·intro h264
          refine AW.rS ?_
          refine AW.c2 ?_ ?_
          ·intro h271
           refine AW.rSC ?_
           refine awOps.cons (awGuard.c1 (c_foliantref05_zero ..) ?_)
           refine awOps.rn ?_
           refine AW.rt ?_
           first | (simp_all [useB,uN,uG,uS,uKeys,uKids,uOk,Bool.and_assoc]; done) | (simp_all [useB,uN,uG,uS,uKeys,uKids,uOk]; omega)
          ·intro h271
           refine AW.skip ?_
           refine AW.rS ?_
           refine AW.rt ?_
           first | (simp_all [useB,uN,uG,uS,uKeys,uKids,uOk,Bool.and_assoc]; done) | (simp_all [useB,uN,uG,uS,uKeys,uKids,uOk]; omega)
theorem c_foliantref05_fits (gl : List (Nat × AV)) (o : Pob) : FnP Tryz.prog (gl) 83 [.agg o.cells] fun r=>r = .ret (.bool (fitsB o)):=by
 refine FnP.intro Tryz.func83 rfl rfl (by simp [Tryz.ntmps83]) ?_
 simp only [argEnv,Tryz.ntmps83,Tryz.results83]
 refine AW.rS ?_
 refine AW.seq ?_
 refine AW.rS ?_
 refine AW.block ?_
 refine AW.rS ?_
 refine AW.c2 ?_ ?_
 ·intro h6
  refine AW.rS ?_
  refine AW.rt ?_
  first | (simp_all [fitsB,Bool.and_assoc]; done) | (simp_all only [fitsB]; simp; rw [Bool.eq_iff_iff]; simp; omega)
 ·intro h6
  refine AW.rS ?_
  refine AW.c2 ?_ ?_
  ·intro h11
   refine AW.rS ?_
   refine AW.rt ?_
   first | (simp_all [fitsB,Bool.and_assoc]; done) | (simp_all only [fitsB]; simp; rw [Bool.eq_iff_iff]; simp; omega)
  ·intro h11
   refine AW.rS ?_
   refine AW.c2 ?_ ?_
   ·intro h16
    refine AW.rS ?_
    refine AW.rt ?_
    first | (simp_all [fitsB,Bool.and_assoc]; done) | (simp_all only [fitsB]; simp; rw [Bool.eq_iff_iff]; simp; omega)
   ·intro h16
    refine AW.rS ?_
    refine AW.c2 ?_ ?_
    ·intro h21
     refine AW.rS ?_
     refine AW.rt ?_
     first | (simp_all [fitsB,Bool.and_assoc]; done) | (simp_all only [fitsB]; simp; rw [Bool.eq_iff_iff]; simp; omega)
    ·intro h21
     refine AW.skip ?_
     refine AW.rS ?_
     refine AW.rt ?_
     first | (simp_all [fitsB,Bool.and_assoc]; done) | (simp_all only [fitsB]; simp; rw [Bool.eq_iff_iff]; simp; omega)
theorem c_foliantref05_long (gl : List (Nat × AV)) (k : Int) : FnP Tryz.prog (gl) 84 [.int .i64 k] fun r=>r = .ret (.int .i64 (longN k)):=by
 refine FnP.intro Tryz.func84 rfl rfl (by simp [Tryz.ntmps84]) ?_
 simp only [argEnv,Tryz.ntmps84,Tryz.results84]
 refine AW.rS ?_
 refine AW.seq ?_
 refine AW.rS ?_
 refine AW.c2 ?_ ?_
 ·intro h4
  refine AW.rS ?_
  refine AW.rt ?_
  simp_all [longN]
 ·intro h4
  refine AW.skip ?_
  refine AW.seq ?_
  refine AW.rS ?_
  refine AW.c2 ?_ ?_
  ·intro h11
   refine AW.rS ?_
   refine AW.rt ?_
   simp_all [longN]
  ·intro h11
   refine AW.skip ?_
   refine AW.rS ?_
   refine AW.rt ?_
   simp_all [longN]
attribute [local go_sem] take_strsAV app1_strsAV take_intsAV drop_intsAV app_intsAV app1_intsAV take_objsAV app1_objsAV
theorem c_foliantref05_keys (gl : List (Nat × AV)) (o : Pob) (h : o.tot ≤ 16777216) : FnP Tryz.prog (gl) 85 [.agg o.cells] fun r=>r = .ret (.bool (formB o)):=by
 refine FnP.intro Tryz.func85 rfl rfl (by simp [Tryz.ntmps85]) ?_
 simp only [argEnv,Tryz.ntmps85,Tryz.results85]
 have hb:=Pob.bulk_tot o
 have hbe:=Pob.bulk_eq o
 have hts:=Pob.tot_str o
 refine AW.rS ?_
 refine AW.seq ?_
 refine AW.rS ?_
 refine AW.c2 ?_ ?_
 ·intro h4
  refine AW.rSC ?_
  refine awOps.cons (awGuard.c1 (c_foliantref05_Name _ o.str (by omega)) ?_)
  refine awOps.rn ?_
  refine AW.rt ?_
  rw [form_name h4]
 ·intro h4
  refine AW.skip ?_
  refine AW.seq ?_
  refine AW.rS ?_
  refine AW.c2 ?_ ?_
  ·intro h13
   refine AW.rS ?_
   refine AW.rt ?_
   ·rw [form_none h4 h13.1 h13.2]
   all_goals first | contradiction | rfl | (simp; done) | (simp; omega)
  ·intro h13
   have h79 : o.kind = 7 ∨ o.kind = 9:=by omega
   rw [form_keys h79]
   refine AW.skip ?_
   refine AW.seq ?_
   refine AW.rS ?_
   refine AW.c2 ?_ ?_
   ·intro h20
    refine AW.rS ?_
    refine AW.rt ?_
    rw [rising_no (fun h'=>h20 (by have:=h'.1; omega))]
   ·intro h20
    refine AW.skip ?_
    refine AW.seq ?_
    refine AW.rS ?_
    refine AW.block ?_
    refine AW.lk (S:={ i : Nat // i ≤ o.keys.length ∧ ∀ j,j < i → okKey o j }) [1,27,28] (fun s_=>[(29,.int .i64 s_.1)]) (fun s_=>[(0,.cells o.cells)]) 1 (fun s_=>o.keys.length - s_.1) ⟨0,Nat.zero_le _,fun j h=>absurd h (by omega)⟩ ?_ ?_
    ·refine St.le.vw [0]
    rintro ⟨i,hi,hs⟩
    try dsimp only at hi
    try dsimp only at hs
    refine AW.rS ?_
    refine AW.seq ?_
    refine AW.c2 ?_ ?_
    ·intro h31
     have hkt:=Pob.tot_key (o:=o) h31
     refine AW.skip ?_
     refine AW.seq ?_
     refine AW.block ?_
     refine AW.rS ?_
     refine AW.rSC ?_
     refine awOps.cons (awGuard.c1 (c_foliantref05_Name _ (o.keys.getD i []) (by omega)) ?_)
     refine awOps.rn ?_
     refine AW.c2 ?_ ?_
     ·intro h39
      refine AW.rS ?_
      refine AW.rt ?_
      rw [rising_no (fun h'=>?_)]
      obtain ⟨k1,k2,k3,k4⟩:=h'.2 i h31
      rcases h39 with ((h | ⟨hi0,h | h⟩) | ⟨h,h9⟩) | h
      ·rw [k1] at h; cases h
      ·have:=bl_asymm (k2 (by omega)); rw [h] at this; cases this
      ·have:=k2 (by omega); rw [← h,bl_irrefl] at this; cases this
      ·exact k3 ⟨h9,h⟩
      ·exact k4 h
     ·intro h39
      have hok : okKey o i:=by
       refine ⟨h39.1.1.1,fun hi0=>?_,?_,h39.2⟩
       ·rcases h39.1.1.2 with h | ⟨h,h'⟩
        ·omega
        ·rcases bl_total (o.keys.getD (i - 1) []) (o.keys.getD i []) with e | e | e
         ·exact absurd e.symm h'
         ·exact e
         ·rw [h] at e; cases e
       ·rintro ⟨h9,hL⟩
        rcases h39.1.2 with h | h
        ·exact h hL
        ·exact h h9
      refine AW.skip ?_
      refine AW.rL ?_
      refine ⟨⟨i + 1,by omega,fun j hj=>(Nat.lt_or_ge j i).elim (hs j) (fun h=>(show j = i by omega) ▸ hok)⟩,?_,?_⟩
      ·refine St.le.vw [0]
      ·simp only []; omega
    ·intro h31
     refine AW.exit ?_
     refine AW.rS ?_
     refine AW.rt ?_
     rw [rising_yes ⟨by omega,fun j hj=>hs j (by omega)⟩]
theorem rcheck_step (gl : List (Nat × AV)) (N : Nat) (hN : N ≤ 16777216) (ih : ∀ (o' : Pob) (d' : Int),o'.tot < N → 1 ≤ d' → d' ≤ 25 → FnP Tryz.prog gl 53 [.agg o'.cells,.int .i64 d'] fun r=>r = .ret (.int .i64 (chk o' d'))) (o : Pob) (d : Int) (ho : o.tot ≤ N) (hd : 1 ≤ d) (hd2 : d ≤ 25) : FnP Tryz.prog (gl) 53 [.agg o.cells,.int .i64 d] fun r=>r = .ret (.int .i64 (chk o d)):=by
 refine FnP.intro Tryz.func53 rfl rfl (by simp [Tryz.ntmps53]) ?_
 simp only [argEnv,Tryz.ntmps53,Tryz.results53]
 have hb:=Pob.bulk_tot o
 have hbe:=Pob.bulk_eq o
 have hts:=Pob.tot_str o
 refine AW.rS ?_
 refine AW.seq ?_
 refine AW.rS ?_
 refine AW.c2 ?_ ?_
 ·intro h4
  refine AW.rS ?_
  refine AW.rt ?_
  rw [own_deep (by omega)]
 ·intro h4
  refine AW.skip ?_
  refine AW.seq ?_
  refine AW.rSC ?_
  refine awOps.cons (awGuard.c1 (c_foliantref05_uses _ o) ?_)
  refine awOps.rn ?_
  refine AW.c2 ?_ ?_
  ·intro h13
   refine AW.rS ?_
   refine AW.rt ?_
   rw [own_use (by omega) (by rw [use_split]; rcases h13 with h | ⟨h,h'⟩; simp [h]; simp [h,show ¬ d = 1 by omega])]
  ·intro h13
   have hu : useB o d = true:=by rw [use_split,h13.1]; rcases h13.2 with h | h; simp [h]; simp [show d = 1 by omega]
   have hu1 : useB o 1 = true:=h13.1
   refine AW.skip ?_
   refine AW.seq ?_
   refine AW.rSC ?_
   refine awOps.cons (awGuard.c1 (c_foliantref05_fits _ o) ?_)
   refine awOps.rn ?_
   refine AW.c2 ?_ ?_
   ·intro h22
    refine AW.rS ?_
    refine AW.rt ?_
    rw [own_fits (by omega) hu h22]
   ·intro h22
    have hf : fitsB o = true:=h22
    refine AW.skip ?_
    refine AW.seq ?_
    refine AW.fS [0,1,2,3,4,5,6] [] ?_
    refine awFun.rn ?_
    refine awFun.c1 [29] (c_foliantref05_long _ o.kind) ?_
    refine awFun.rn ?_
    rw [Aw.awFun_nil,Aw.awPlan_nil]
    refine AW.c2 ?_ ?_
    ·intro h33
     refine AW.rS ?_
     refine AW.rt ?_
     rw [own_long (by omega) hu hf (by rw [short_ref hu1]; simp; omega)]
    ·intro h33
     have hsh : shortB o = true:=by rw [short_ref hu1]; simpa using h33
     refine AW.skip ?_
     refine AW.seq ?_
     refine AW.rS ?_
     refine AW.c2 ?_ ?_
     ·intro h40
      refine AW.rS ?_
      refine AW.rt ?_
      rw [own_many (by omega) hu hf hsh (by omega)]
     ·intro h40
      refine AW.skip ?_
      refine AW.seq ?_
      refine AW.rSC ?_
      refine awOps.cons (awGuard.c1 (c_foliantref05_keys _ o (by omega)) ?_)
      refine awOps.rn ?_
      refine AW.c2 ?_ ?_
      ·intro h49
       refine AW.rS ?_
       refine AW.rt ?_
       rw [own_form (by omega) hu hf hsh (by omega) h49]
      ·intro h49
       have hfo : formB o = true:=h49
       refine AW.skip ?_
       refine AW.seq ?_
       refine AW.rS ?_
       refine AW.block ?_
       refine AW.lk (S:={ i : Nat // i ≤ o.kids.length ∧ chkL o.kids (d + 1) = chkL (o.kids.drop i) (d + 1) }) [1,40,41] (fun s_=>[(42,.int .i64 s_.1)]) (fun s_=>[(0,.cells o.cells)]) 1 (fun s_=>o.kids.length - s_.1) ⟨0,Nat.zero_le _,rfl⟩ ?_ ?_
       ·refine St.le.vw [0]
       rintro ⟨i,hi,hs⟩
       try dsimp only at hi
       try dsimp only at hs
       refine AW.rS ?_
       refine AW.seq ?_
       refine AW.c2 ?_ ?_
       ·intro h60
        have hkt:=Pob.tot_kid (o:=o) h60
        refine AW.skip ?_
        refine AW.seq ?_
        refine AW.block ?_
        refine AW.rS ?_
        refine AW.rSC ?_
        refine awOps.cons (awGuard.c1 (ih (o.kids.getD i Pob.null) (d + 1) (by omega) (by omega) (by omega)) ?_)
        refine awOps.rn ?_
        refine AW.rS ?_
        refine AW.c2 ?_ ?_
        ·intro h69
         refine AW.rS ?_
         refine AW.rt ?_
         rw [own_ok (by omega) hu hf hsh (by omega) hfo,hs,chkL_drop h60,if_neg h69]
        ·intro h69
         refine AW.skip ?_
         refine AW.rL ?_
         refine ⟨⟨i + 1,by omega,by rw [hs,chkL_drop h60,if_pos h69]⟩,?_,?_⟩
         ·refine St.le.vw [0]
         ·simp only []; omega
       ·intro h60
        refine AW.exit ?_
        refine AW.rS ?_
        refine AW.rt ?_
        rw [own_ok (by omega) hu hf hsh (by omega) hfo,hs,List.drop_of_length_le (by omega)]
        with_unfolding_all rfl
theorem rcheck_all (gl : List (Nat × AV)) (N : Nat) : N ≤ 16777216 → ∀ (o : Pob) (d : Int),o.tot ≤ N → 1 ≤ d → d ≤ 25 → FnP Tryz.prog gl 53 [.agg o.cells,.int .i64 d] fun r=>r = .ret (.int .i64 (chk o d)):=by
 induction N using Nat.strongRecOn with
 | ind N IH=>exact fun hN o d ho hd hd2=>rcheck_step gl N hN (fun o' d' h h1 h2=>IH o'.tot h (by omega) o' d' (Nat.le_refl _) h1 h2) o d ho hd hd2
theorem c_foliantref05_Check (gl : List (Nat × AV)) (o : Pob) (h : o.tot ≤ 16777216) : FnP Tryz.prog (gl) 22 [.agg o.cells] fun r=>r = .ret (.int .i64 (chk o 1)):=by
 refine FnP.intro Tryz.func22 rfl rfl (by simp [Tryz.ntmps22]) ?_
 simp only [argEnv,Tryz.ntmps22,Tryz.results22]
 refine AW.rS ?_
 refine AW.rSC ?_
 refine awOps.cons (awGuard.c1 (rcheck_all _ 16777216 (Nat.le_refl _) o 1 h (by omega) (by omega)) ?_)
 refine awOps.rn ?_
 refine AW.rt ?_
 all_goals first | contradiction | rfl | (simp; done) | (simp; omega)
end Go.Proofs

namespace Go.Proofs
open Go Aw
set_option linter.unusedSimpArgs false
set_option linter.unusedVariables false
set_option maxRecDepth 100000
set_option maxHeartbeats 4000000
attribute [local go_sem] take_strsAV app1_strsAV take_intsAV drop_intsAV app_intsAV app1_intsAV take_objsAV app1_objsAV
theorem c_foliantref05_Get (gl : List (Nat × AV)) (o : Pob) (key : List UInt8) (h : o.bulk ≤ 16777216) : FnP Tryz.prog (gl) 81 [.agg o.cells,.str key] fun r=>r = .ret (.tup [.agg (getO o key).cells,.bool (getB o key)]):=by
 refine FnP.intro Tryz.func81 rfl rfl (by simp [Tryz.ntmps81]) ?_
 simp only [argEnv,Tryz.ntmps81,Tryz.results81]
 have hbe:=Pob.bulk_eq o
 refine AW.rS ?_
 refine AW.seq ?_
 refine AW.rS ?_
 refine AW.c2 ?_ ?_
 ·intro h4
  refine AW.rS ?_
  refine AW.rt ?_
  have hg:=get_unkeyed (o:=o) (key:=key) (by simp [keyedB,h4.1,h4.2])
  rw [hg.1,hg.2] <;> rfl
 ·intro h4
  refine AW.skip ?_
  refine AW.seq ?_
  refine AW.rS ?_
  refine AW.block ?_
  refine AW.lk (S:={ i : Nat // i ≤ o.keys.length ∧ ∀ j,j < i → o.keys.getD j [] ≠ key }) [1,2,4,18,19] (fun s_=>[(20,.int .i64 s_.1)]) (fun s_=>[(0,.cells o.cells),(1,.cells [.int .i64 0,.int .i64 0,.int .i64 0,.str [],.raw (.slice none 0 0),.raw (.slice none 0 0)])]) 2 (fun s_=>o.keys.length - s_.1) ⟨0,Nat.zero_le _,fun j h=>absurd h (by omega)⟩ ?_ ?_
  ·refine St.le.vw [0,1]
  rintro ⟨i,hi,hs⟩
  try dsimp only at hi
  try dsimp only at hs
  refine AW.rS ?_
  refine AW.seq ?_
  refine AW.c2 ?_ ?_
  ·intro h15
   refine AW.skip ?_
   refine AW.seq ?_
   refine AW.block ?_
   refine AW.rS ?_
   refine AW.rS ?_
   refine AW.c2 ?_ ?_
   ·intro h21
    have hkx:=kidx_hit h15 hs h21.symm
    refine AW.seq ?_
    refine AW.rS ?_
    refine AW.c2 ?_ ?_
    ·intro h24
     refine AW.rS ?_
     refine AW.rt ?_
     have hg:=get_miss (o:=o) (key:=key) (by rw [hkx]; omega)
     rw [hg.1,hg.2] <;> rfl
    ·intro h24
     refine AW.skip ?_
     refine AW.rS ?_
     refine AW.rt ?_
     have hg:=get_hit (o:=o) (key:=key) (by simp only [keyedB]; simp; omega) (by rw [hkx]; omega)
     rw [hg.1,hg.2,hkx]
     rfl
   ·intro h21
    refine AW.skip ?_
    refine AW.rL ?_
    refine ⟨⟨i + 1,by omega,fun j hj=>(Nat.lt_or_ge j i).elim (hs j) (fun h=>(show j = i by omega) ▸ h21)⟩,?_,?_⟩
    ·refine St.le.vw [0,1]
    ·simp only []; omega
  ·intro h15
   refine AW.exit ?_
   refine AW.rS ?_
   refine AW.rt ?_
   have hg:=get_miss (o:=o) (key:=key) (by rw [kidx_miss (fun j hj=>hs j (by omega))]; omega)
   rw [hg.1,hg.2] <;> rfl
end Go.Proofs

namespace Go.Proofs
open Go Aw
set_option linter.unusedSimpArgs false
set_option linter.unusedVariables false
set_option maxRecDepth 100000
set_option maxHeartbeats 4000000
theorem c_docs_kind (gl : List (Nat × AV)) (o : Pob) (h : o.bulk ≤ 16777216:=by first | omega | exact u8_le _ | assumption | (simp; done) | (simp; omega)) : FnP Tryz.prog (gl) 128 [.agg o.cells] fun r=>r = .ret (.str (docKind o)):=by
 refine FnP.intro Tryz.func128 rfl rfl (by simp [Tryz.ntmps128]) ?_
 simp only [argEnv,Tryz.ntmps128,Tryz.results128]
 refine AW.rS ?_
 refine AW.rSC ?_
 refine awOps.cons (awGuard.c1 (c_value_Get ..) ?_)
 refine awOps.rn ?_
 refine AW.seq ?_
 refine AW.rS ?_
 refine AW.c2 ?_ ?_
 ·intro h7
  refine AW.rS ?_
  refine AW.rt ?_
  simp_all [docKind,typeK]
 ·intro h7
  refine AW.skip ?_
  refine AW.rS ?_
  refine AW.rt ?_
  simp_all [docKind,typeK]
theorem c_docs_holds (gl : List (Nat × AV)) (o : Pob) (h : o.bulk ≤ 16777216:=by first | omega | exact u8_le _ | assumption | (simp; done) | (simp; omega)) : FnP Tryz.prog (gl) 108 [.agg o.cells] fun r=>r = .ret (.bool (holdsB o)):=by
 refine FnP.intro Tryz.func108 rfl rfl (by simp [Tryz.ntmps108]) ?_
 simp only [argEnv,Tryz.ntmps108,Tryz.results108]
 refine AW.rS ?_
 refine AW.rSC ?_
 refine awOps.cons (awGuard.cG (fun hg=>c_docs_kind ..) ?_)
 refine awOps.rn ?_
 refine awOps.cons (awGuard.cG (fun hg=>c_docs_kind ..) ?_)
 refine awOps.rn ?_
 refine AW.rt ?_
 simp_all [holdsB]
theorem c_docs_content (gl : List (Nat × AV)) (i : Itm) (h : i.obj.bulk ≤ 16777216:=by first | omega | exact u8_le _ | assumption | (simp; done) | (simp; omega)) : FnP Tryz.prog (gl) 87 [.agg i.cells] fun r=>r = .ret (.int .i64 (contentE i)):=by
 refine FnP.intro Tryz.func87 rfl rfl (by simp [Tryz.ntmps87]) ?_
 simp only [argEnv,Tryz.ntmps87,Tryz.results87]
 refine AW.rS ?_
 refine AW.seq ?_
 refine AW.rSC ?_
 refine awOps.cons (awGuard.c1 (c_value_Check _ i.obj) ?_)
 refine awOps.rn ?_
 refine AW.rS ?_
 refine AW.c2 ?_ ?_
 ·intro h7
  refine AW.rS ?_
  refine AW.rt ?_
  ·rw [content_bad h7]
  all_goals first | contradiction | rfl | (simp; done) | (simp; omega)
 ·intro h7
  refine AW.skip ?_
  refine AW.seq ?_
  refine AW.rSC ?_
  refine awOps.cons (awGuard.cG (fun hg=>c_docs_holds _ i.obj) ?_)
  refine awOps.rn ?_
  refine AW.c2 ?_ ?_
  ·intro h16
   refine AW.rS ?_
   refine AW.rt ?_
   simp only [contentE]; simp_all
  ·intro h16
   refine AW.skip ?_
   refine AW.rS ?_
   refine AW.rt ?_
   simp only [contentE]; simp_all
theorem c_docs_items (gl : List (Nat × AV)) (l : List Itm) (h : ibulk l ≤ 16777216) : FnP Tryz.prog (gl) 55 [.sl (itemsAV l)] fun r=>r = .ret (.int .i64 (itemsE l)):=by
 refine FnP.intro Tryz.func55 rfl rfl (by simp [Tryz.ntmps55]) ?_
 simp only [argEnv,Tryz.ntmps55,Tryz.results55]
 have hlen:=ibulk_len l
 refine AW.rS ?_
 refine AW.seq ?_
 refine AW.rS ?_
 refine AW.block ?_
 refine AW.lk (S:={ k : Nat // k ≤ l.length ∧ itemsE l = itemsFrom l k (l.length - k) }) [0,6,7] (fun s_=>[(8,.int .i64 s_.1)]) (fun s_=>[]) 0 (fun s_=>l.length - s_.1) ⟨0,Nat.zero_le _,rfl⟩ ?_ ?_
 ·refine St.le.vw []
 rintro ⟨k,hk,hs⟩
 try dsimp only at hk
 try dsimp only at hs
 refine AW.rS ?_
 refine AW.seq ?_
 refine AW.c2 ?_ ?_
 ·intro h8
  have hgb:=ibulk_get (l:=l) (i:=k) (by omega)
  refine AW.skip ?_
  refine AW.seq ?_
  refine AW.block ?_
  refine AW.rS ?_
  refine AW.seq ?_
  refine AW.block ?_
  refine AW.rSC ?_
  refine awOps.cons (awGuard.c1 (c_docs_numbers _ (l.getD k Itm.zero)) ?_)
  refine awOps.rn ?_
  refine AW.c2 ?_ ?_
  ·intro h18
   refine AW.rS ?_
   refine AW.rt ?_
   rw [hs,itemsFrom_step h8,if_pos (nums_no h18)]
  ·intro h18
   refine AW.dS [(0,0),(1,0),(2,0),(3,0),(4,1),(5,0),(6,0),(7,0),(8,1),(9,0),(10,1),(11,0),(12,0),(13,0)] ?_
   refine AW.c2 ?_ ?_
   ·intro h23
    refine AW.rS ?_
    refine AW.rt ?_
    rw [hs,itemsFrom_step h8,if_neg (by rw [nums_yes h18]; simp),if_pos (by omega)]
   ·intro h23
    refine AW.skip ?_
    refine AW.rSC ?_
    refine awOps.cons (awGuard.c1 (c_docs_content _ (l.getD k Itm.zero)) ?_)
    refine awOps.rn ?_
    refine AW.rS ?_
    refine AW.c2 ?_ ?_
    ·intro h32
     refine AW.rS ?_
     refine AW.rt ?_
     rw [hs,itemsFrom_step h8,if_neg (by rw [nums_yes h18]; simp),if_neg (by omega),if_pos h32]
    ·intro h32
     refine AW.skip ?_
     refine AW.rL ?_
     refine ⟨⟨k + 1,by omega,by rw [hs,itemsFrom_step (by omega),if_neg (by rw [nums_yes h18]; simp),if_neg (by omega),if_neg (by simpa using h32)]⟩,?_,?_⟩
     ·refine St.le.vw []
     ·simp only []; omega
 ·intro h8
  refine AW.exit ?_
  refine AW.rS ?_
  refine AW.rt ?_
  rw [hs,show l.length - k = 0 from by omega,itemsFrom]
theorem c_docs_Follow_1 (gl : List (Nat × AV)) (i : Itm) (o : Pob) : FnP Tryz.prog (gl) 111 [.agg i.cells,.tptr o.cells] fun r=>r = .ret (.bool (decide (i.num = o.num))):=by
 refine FnP.intro Tryz.func111 rfl rfl (by simp [Tryz.ntmps111]) ?_
 simp only [argEnv,Tryz.ntmps111,Tryz.results111]
 refine AW.rS ?_
 refine AW.rS ?_
 refine AW.rt ?_
 all_goals first | contradiction | rfl | (simp; done) | (simp; omega)
theorem c_IndexFunc_Follow (gl : List (Nat × AV)) (l : List Itm) (o : Pob) (hl : l.length ≤ 16777216:=by first | omega | exact u8_le _ | assumption | (simp; done) | (simp; omega)) : FnP Tryz.prog (gl) 57 [.sl (itemsAV l),.clos 111 [.tptr o.cells]] fun r=>r = .ret (.int .i64 (iidxI l o.num)):=by
 refine FnP.intro Tryz.func57 rfl rfl (by simp [Tryz.ntmps57]) ?_
 simp only [argEnv,Tryz.ntmps57,Tryz.results57]
 refine AW.rS ?_
 refine AW.seq ?_
 refine AW.rS ?_
 refine AW.block ?_
 refine AW.lk (S:={ i : Nat // i ≤ l.length ∧ ∀ j,j < i → (l.getD j Itm.zero).num ≠ o.num }) [0,1,7] (fun s_=>[(8,.int .i64 s_.1)]) (fun s_=>[]) 0 (fun s_=>l.length - s_.1) ⟨0,Nat.zero_le _,fun j h=>absurd h (by omega)⟩ ?_ ?_
 ·refine St.le.vw []
 rintro ⟨i,hi,hs⟩
 try dsimp only at hi
 try dsimp only at hs
 refine AW.rS ?_
 refine AW.seq ?_
 refine AW.c2 ?_ ?_
 ·intro h8
  refine AW.skip ?_
  refine AW.seq ?_
  refine AW.block ?_
  refine AW.rS ?_
  refine AW.rSC ?_
  refine awOps.cons (awGuard.c1 (c_docs_Follow_1 _ (l.getD i Itm.zero) o) ?_)
  refine awOps.rn ?_
  refine AW.c2 ?_ ?_
  ·intro h16
   refine AW.rS ?_
   refine AW.rt ?_
   rw [iidx_hit h8 hs h16]
  ·intro h16
   refine AW.skip ?_
   refine AW.rL ?_
   refine ⟨⟨i + 1,by omega,fun j hj=>(Nat.lt_or_ge j i).elim (hs j) (fun h=>(show j = i by omega) ▸ h16)⟩,?_,?_⟩
   ·refine St.le.vw []
   ·simp only []; omega
 ·intro h8
  refine AW.exit ?_
  refine AW.rS ?_
  refine AW.rt ?_
  rw [iidx_miss (fun j hj=>hs j (by omega))]
theorem c_docs_Follow (gl : List (Nat × AV)) (d : Dc) (o : Pob) (h : d.bulk ≤ 16777216:=by first | omega | exact u8_le _ | assumption | (simp; done) | (simp; omega)) (ho : o.bulk ≤ 16777216:=by first | omega | exact u8_le _ | assumption | (simp; done) | (simp; omega)) : FnP Tryz.prog (gl) 91 [.agg d.cells,.agg o.cells] fun r=>r = .ret (.agg (followO d o).cells):=by
 refine FnP.intro Tryz.func91 rfl rfl (by simp [Tryz.ntmps91]) ?_
 simp only [argEnv,Tryz.ntmps91,Tryz.results91]
 have hlen:=ibulk_len d.items
 have hlt:=iidxI_lt (l:=d.items) (n:=o.num)
 simp only [Dc.bulk] at h
 refine AW.rS ?_
 refine AW.seq ?_
 refine AW.rS ?_
 refine AW.c2 ?_ ?_
 ·intro h4
  refine AW.rSC ?_
  refine awOps.cons (awGuard.c1 (c_value_Clone _ o ho) ?_)
  refine awOps.rn ?_
  refine AW.rt ?_
  rw [followO,if_pos h4]
 ·intro h4
  refine AW.skip ?_
  refine AW.rSC ?_
  refine awOps.cons (awGuard.c1 (c_IndexFunc_Follow _ d.items o (by omega)) ?_)
  refine awOps.rn ?_
  refine AW.seq ?_
  by_cases hs15 : 0 ≤ iidxI d.items o.num
  ·skip
   refine AW.dS [(0,0),(1,0),(2,0),(3,0),(4,1),(5,0),(6,1),(7,0),(8,1),(9,0),(10,1),(11,0),(12,0)] ?_
   refine AW.c2 ?_ ?_
   ·intro h16
    refine AW.rS ?_
    refine AW.rt ?_
    have hf : followO d o = Pob.null:=by simp only [followO]; grind
    rw [hf] <;> rfl
   ·intro h16
    refine AW.skip ?_
    refine AW.rSC ?_
    refine awOps.cons (awGuard.c1 (c_value_Clone _ (d.items.getD (iidxI d.items o.num).toNat Itm.zero).obj (by have:=ibulk_get (l:=d.items) (i:=(iidxI d.items o.num).toNat) (by omega); omega)) ?_)
    refine awOps.rn ?_
    refine AW.rt ?_
    have hf : followO d o = (d.items.getD (iidxI d.items o.num).toNat Itm.zero).obj:=by simp only [followO]; grind
    rw [hf]
  ·skip
   by_cases hs15 : 0 < d.items.length
   ·skip
    refine AW.dS [(0,0),(1,0),(2,0),(3,0),(4,1),(5,0),(6,1),(7,0),(8,1),(9,0),(10,1),(11,0),(12,0)] ?_
    refine AW.c2 ?_ ?_
    ·intro h16
     refine AW.rS ?_
     refine AW.rt ?_
     have hf : followO d o = Pob.null:=by simp only [followO]; grind
     rw [hf] <;> rfl
    ·intro h16
     exfalso; first | omega | (simp at h16; omega)
   ·skip
    refine AW.dS [(0,0),(1,0),(2,0),(3,0),(4,1),(5,0),(6,1),(7,0),(8,1),(9,0),(10,1),(11,0),(12,0)] ?_
    refine AW.c2 ?_ ?_
    ·intro h16
     refine AW.rS ?_
     refine AW.rt ?_
     have hf : followO d o = Pob.null:=by simp only [followO]; grind
     rw [hf] <;> rfl
    ·intro h16
     exfalso; first | omega | (simp at h16; omega)
theorem c_docs_known (gl : List (Nat × AV))  : FnP Tryz.prog (gl) 89 [] fun r=>r = .ret (.sl (strsAV trailK)):=by
 refine FnP.intro Tryz.func89 rfl rfl (by simp [Tryz.ntmps89]) ?_
 simp only [argEnv,Tryz.ntmps89,Tryz.results89]
 refine AW.rS ?_
 refine AW.rS ?_
 refine AW.rt ?_
 all_goals first | contradiction | rfl | (simp; done) | (simp; omega)
theorem c_slices_Contains_string_string (gl : List (Nat × AV)) (ks : List (List UInt8)) (k : List UInt8) (h : ks.length ≤ 16777216:=by first | omega | exact u8_le _ | assumption | (simp; done) | (simp; omega)) : FnP Tryz.prog (gl) 88 [.sl (strsAV ks),.str k] fun r=>r = .ret (.bool (decide (0 ≤ kidxI ks k))):=by
 refine FnP.intro Tryz.func88 rfl rfl (by simp [Tryz.ntmps88]) ?_
 simp only [argEnv,Tryz.ntmps88,Tryz.results88]
 refine AW.rS ?_
 refine AW.rSC ?_
 refine awOps.cons (awGuard.c1 (c_slices_Index_string_string _ ks k) ?_)
 refine awOps.rn ?_
 refine AW.rt ?_
 all_goals first | contradiction | rfl | (simp; done) | (simp; omega)
theorem c_docs_trail (gl : List (Nat × AV)) (d : Dc) (h : d.bulk ≤ 16777216:=by first | omega | exact u8_le _ | assumption | (simp; done) | (simp; omega)) : FnP Tryz.prog (gl) 56 [.agg d.cells] fun r=>r = .ret (.int .i64 (trailE d)):=by
 refine FnP.intro Tryz.func56 rfl rfl (by simp [Tryz.ntmps56]) ?_
 simp only [argEnv,Tryz.ntmps56,Tryz.results56]
 have h0:=h
 simp only [Dc.bulk] at h
 have hkb:=Pob.bulk_eq d.trailer
 have hrb:=get_bulk d.trailer rootK
 refine AW.rS ?_
 refine AW.seq ?_
 refine AW.rSC ?_
 refine awOps.cons (awGuard.c1 (c_value_Check _ d.trailer) ?_)
 refine awOps.rn ?_
 refine AW.rS ?_
 refine AW.c2 ?_ ?_
 ·intro h7
  refine AW.rS ?_
  refine AW.rt ?_
  rw [trail_bad h7]
 ·intro h7
  refine AW.skip ?_
  refine AW.seq ?_
  refine AW.rS ?_
  refine AW.c2 ?_ ?_
  ·intro h14
   refine AW.rS ?_
   refine AW.rt ?_
   rw [trail_kind h7 h14]
  ·intro h14
   refine AW.skip ?_
   refine AW.seq ?_
   refine AW.rS ?_
   refine AW.block ?_
   refine AW.lk (S:={ i : Nat // i ≤ d.trailer.keys.length ∧ ∀ j,j < i → 0 ≤ kidxI trailK (d.trailer.keys.getD j []) }) [1,20,21] (fun s_=>[(22,.int .i64 s_.1)]) (fun s_=>[(0,.cells d.cells)]) 1 (fun s_=>d.trailer.keys.length - s_.1) ⟨0,Nat.zero_le _,fun j h=>absurd h (by omega)⟩ ?_ ?_
   ·refine St.le.vw [0]
   rintro ⟨i,hi,hs⟩
   try dsimp only at hi
   try dsimp only at hs
   refine AW.rS ?_
   refine AW.seq ?_
   refine AW.c2 ?_ ?_
   ·intro h25
    refine AW.skip ?_
    refine AW.seq ?_
    refine AW.block ?_
    refine AW.rS ?_
    refine AW.rSC ?_
    refine awOps.cons (awGuard.c1 (c_docs_known ..) ?_)
    refine awOps.rn ?_
    refine awOps.cons (awGuard.c1 (c_slices_Contains_string_string _ trailK (d.trailer.keys.getD i []) (by decide)) ?_)
    refine awOps.rn ?_
    refine AW.c2 ?_ ?_
    ·intro h35
     refine AW.rS ?_
     refine AW.rt ?_
     rw [trail_key h7 h14 (fun hh=>by have:=hh i h25; omega)]
    ·intro h35
     refine AW.skip ?_
     refine AW.rL ?_
     refine ⟨⟨i + 1,by omega,fun j hj=>(Nat.lt_or_ge j i).elim (hs j) (fun h=>(show j = i by omega) ▸ h35)⟩,?_,?_⟩
     ·refine St.le.vw [0]
     ·simp only []; omega
   ·intro h25
    refine AW.exit ?_
    have htk : trailOk d.trailer.keys:=fun j hj=>hs j (by omega)
    refine AW.rSC ?_
    refine awOps.cons (awGuard.c1 (c_value_Get _ d.trailer rootK) ?_)
    refine awOps.rn ?_
    refine AW.seq ?_
    refine AW.rSC ?_
    refine awOps.cons (awGuard.cG (fun hg=>c_docs_Follow _ d (getO d.trailer rootK) h0 (by omega)) ?_)
    refine awOps.rn ?_
    refine AW.c2 ?_ ?_
    ·intro h50
     refine AW.rS ?_
     refine AW.rt ?_
     rw [trail_root h7 h14 htk,if_pos h50]
    ·intro h50
     refine AW.skip ?_
     refine AW.rS ?_
     refine AW.rt ?_
     rw [trail_root h7 h14 htk,if_neg (by simp [h50])]
theorem c_docs_Check (gl : List (Nat × AV)) (d : Dc) (h : d.bulk ≤ 16777216:=by first | omega | exact u8_le _ | assumption | (simp; done) | (simp; omega)) : FnP Tryz.prog (gl) 28 [.agg d.cells] fun r=>r = .ret (.int .i64 (docE d)):=by
 refine FnP.intro Tryz.func28 rfl rfl (by simp [Tryz.ntmps28]) ?_
 simp only [argEnv,Tryz.ntmps28,Tryz.results28]
 refine AW.rS ?_
 refine AW.seq ?_
 refine AW.rSC ?_
 refine awOps.cons (awGuard.c1 (c_docs_items _ d.items (by simp only [Dc.bulk] at h; omega)) ?_)
 refine awOps.rn ?_
 refine AW.rS ?_
 refine AW.c2 ?_ ?_
 ·intro h7
  refine AW.rS ?_
  refine AW.rt ?_
  rw [doc_bad h7]
 ·intro h7
  refine AW.skip ?_
  refine AW.rSC ?_
  refine awOps.cons (awGuard.c1 (c_docs_trail _ d h) ?_)
  refine awOps.rn ?_
  refine AW.rt ?_
  rw [doc_trail h7]
theorem c_docs_Get_1 (gl : List (Nat × AV)) (i : Itm) (n : Int) : FnP Tryz.prog (gl) 58 [.agg i.cells,.tptr [.int .i64 n]] fun r=>r = .ret (.bool (decide (i.num = n))):=by
 refine FnP.intro Tryz.func58 rfl rfl (by simp [Tryz.ntmps58]) ?_
 simp only [argEnv,Tryz.ntmps58,Tryz.results58]
 refine AW.rS ?_
 refine AW.rS ?_
 refine AW.rt ?_
 all_goals first | contradiction | rfl | (simp; done) | (simp; omega)
theorem c_IndexFunc_Get (gl : List (Nat × AV)) (l : List Itm) (n : Int) (hl : l.length ≤ 16777216:=by first | omega | exact u8_le _ | assumption | (simp; done) | (simp; omega)) : FnP Tryz.prog (gl) 57 [.sl (itemsAV l),.clos 58 [.tptr [.int .i64 n]]] fun r=>r = .ret (.int .i64 (iidxI l n)):=by
 refine FnP.intro Tryz.func57 rfl rfl (by simp [Tryz.ntmps57]) ?_
 simp only [argEnv,Tryz.ntmps57,Tryz.results57]
 refine AW.rS ?_
 refine AW.seq ?_
 refine AW.rS ?_
 refine AW.block ?_
 refine AW.lk (S:={ i : Nat // i ≤ l.length ∧ ∀ j,j < i → (l.getD j Itm.zero).num ≠ n }) [0,1,7] (fun s_=>[(8,.int .i64 s_.1)]) (fun s_=>[]) 0 (fun s_=>l.length - s_.1) ⟨0,Nat.zero_le _,fun j h=>absurd h (by omega)⟩ ?_ ?_
 ·refine St.le.vw []
 rintro ⟨i,hi,hs⟩
 try dsimp only at hi
 try dsimp only at hs
 refine AW.rS ?_
 refine AW.seq ?_
 refine AW.c2 ?_ ?_
 ·intro h8
  refine AW.skip ?_
  refine AW.seq ?_
  refine AW.block ?_
  refine AW.rS ?_
  refine AW.rSC ?_
  refine awOps.cons (awGuard.c1 (c_docs_Get_1 _ (l.getD i Itm.zero) n) ?_)
  refine awOps.rn ?_
  refine AW.c2 ?_ ?_
  ·intro h16
   refine AW.rS ?_
   refine AW.rt ?_
   rw [iidx_hit h8 hs h16]
  ·intro h16
   refine AW.skip ?_
   refine AW.rL ?_
   refine ⟨⟨i + 1,by omega,fun j hj=>(Nat.lt_or_ge j i).elim (hs j) (fun h=>(show j = i by omega) ▸ h16)⟩,?_,?_⟩
   ·refine St.le.vw []
   ·simp only []; omega
 ·intro h8
  refine AW.exit ?_
  refine AW.rS ?_
  refine AW.rt ?_
  rw [iidx_miss (fun j hj=>hs j (by omega))]
theorem c_docs_Get (gl : List (Nat × AV)) (d : Dc) (n : Int) (h : d.bulk ≤ 16777216:=by first | omega | exact u8_le _ | assumption | (simp; done) | (simp; omega)) : FnP Tryz.prog (gl) 30 [.agg d.cells,.int .i64 n] fun r=>r = .ret (.tup [.agg ((lookI d.items n).getD Itm.zero).cells,.bool (lookI d.items n).isSome]):=by
 refine FnP.intro Tryz.func30 rfl rfl (by simp [Tryz.ntmps30]) ?_
 simp only [argEnv,Tryz.ntmps30,Tryz.results30]
 simp only [Dc.bulk] at h
 have hlen:=ibulk_len d.items
 have hlt:=iidxI_lt (l:=d.items) (n:=n)
 refine AW.rS ?_
 refine AW.rSC ?_
 refine awOps.cons (awGuard.c1 (c_IndexFunc_Get _ d.items n) ?_)
 refine awOps.rn ?_
 refine AW.seq ?_
 refine AW.rS ?_
 refine AW.c2 ?_ ?_
 ·intro h7
  refine AW.rS ?_
  refine AW.rt ?_
  rw [look_miss h7] <;> rfl
 ·intro h7
  refine AW.skip ?_
  have hgb:=ibulk_get (l:=d.items) (i:=(iidxI d.items n).toNat) (by omega)
  refine AW.rSC ?_
  refine awOps.cons (awGuard.c1 (c_docs_copied _ (d.items.getD (iidxI d.items n).toNat Itm.zero)) ?_)
  refine awOps.rn ?_
  refine AW.rt ?_
  rw [look_hit (by omega)] <;> rfl
end Go.Proofs




namespace Aw
open Go
theorem takeItm_succ {a b : List Itm} {i : Nat} (h : i < a.length) (hl : a.length = b.length) (he : a.take i = b.take i) (hg : a.getD i Itm.zero = b.getD i Itm.zero) : a.take (i + 1) = b.take (i + 1):=by
 rw [List.take_succ_eq_append_getElem h,List.take_succ_eq_append_getElem (hl ▸ h),he]
 simp only [List.getD,List.getElem?_eq_getElem h,List.getElem?_eq_getElem (hl ▸ h),Option.getD_some] at hg
 rw [hg]
theorem Dc_eq (a b : Dc) : a = b ↔ a.items = b.items ∧ a.trailer = b.trailer:=by cases a; cases b; simp
instance dcDec : DecidableEq Dc:=fun a b=>decidable_of_iff (a.items = b.items ∧ a.trailer = b.trailer) (Dc_eq a b).symm
end Aw

namespace Go.Proofs
open Go Aw
set_option linter.unusedSimpArgs false
set_option linter.unusedVariables false
set_option maxRecDepth 100000
set_option maxHeartbeats 4000000
end Go.Proofs

namespace Aw
open Go
end Aw
namespace Aw
open Go
end Aw

namespace Go.Proofs
open Go Aw
set_option linter.unusedSimpArgs false
set_option linter.unusedVariables false
set_option maxRecDepth 100000
set_option maxHeartbeats 4000000
theorem c_EqualFunc_Item (gl : List (Nat × AV)) (a b : List Itm) (ha : ibulk a ≤ 16777216) : FnP Tryz.prog (gl) 69 [.sl (itemsAV a),.sl (itemsAV b),.clos 70 []] fun r=>r = .ret (.bool (decide (a = b))):=by
 refine FnP.intro Tryz.func69 rfl rfl (by simp [Tryz.ntmps69]) ?_
 simp only [argEnv,Tryz.ntmps69,Tryz.results69]
 have hla:=ibulk_len a
 refine AW.rS ?_
 refine AW.seq ?_
 refine AW.rS ?_
 refine AW.c2 ?_ ?_
 ·intro h4
  refine AW.rS ?_
  refine AW.rt ?_
  rw [decide_eq_false (fun e=>h4 (by rw [e]))]
 ·intro h4
  refine AW.skip ?_
  refine AW.seq ?_
  refine AW.rS ?_
  refine AW.block ?_
  refine AW.lk (S:={ i : Nat // i ≤ a.length ∧ a.take i = b.take i }) [1,2,15,16] (fun s_=>[(17,.int .i64 s_.1)]) (fun s_=>[]) 0 (fun s_=>a.length - s_.1) ⟨0,Nat.zero_le _,rfl⟩ ?_ ?_
  ·refine St.le.vw []
  rintro ⟨i,hi,hs⟩
  try dsimp only at hi
  try dsimp only at hs
  refine AW.rS ?_
  refine AW.seq ?_
  refine AW.c2 ?_ ?_
  ·intro h15
   have hga:=ibulk_get (l:=a) (i:=i) (by omega)
   refine AW.skip ?_
   refine AW.seq ?_
   refine AW.block ?_
   refine AW.rS ?_
   refine AW.rS ?_
   refine AW.rSC ?_
   refine awOps.cons (awGuard.c1 (c_docs_same _ (a.getD i Itm.zero) (b.getD i Itm.zero) (by omega)) ?_)
   refine awOps.rn ?_
   refine AW.c2 ?_ ?_
   ·intro h24
    refine AW.rS ?_
    refine AW.rt ?_
    rw [decide_eq_false (fun e=>h24 (by rw [e]))]
   ·intro h24
    refine AW.skip ?_
    refine AW.rL ?_
    refine ⟨⟨i + 1,by omega,takeItm_succ h15 (by omega) hs h24⟩,?_,?_⟩
    ·refine St.le.vw []
    ·simp only []; omega
  ·intro h15
   refine AW.exit ?_
   refine AW.rS ?_
   refine AW.rt ?_
   rw [List.take_of_length_le (by omega),List.take_of_length_le (by omega)] at hs
   simp [hs]
theorem c_docs_Same (gl : List (Nat × AV)) (a b : Dc) (h : a.bulk ≤ 16777216:=by first | omega | exact u8_le _ | assumption | (simp; done) | (simp; omega)) : FnP Tryz.prog (gl) 44 [.agg a.cells,.agg b.cells] fun r=>r = .ret (.bool (decide (a = b))):=by
 refine FnP.intro Tryz.func44 rfl rfl (by simp [Tryz.ntmps44]) ?_
 simp only [argEnv,Tryz.ntmps44,Tryz.results44]
 simp only [Dc.bulk] at h
 refine AW.rS ?_
 refine AW.rSC ?_
 refine awOps.cons (awGuard.c1 (c_EqualFunc_Item _ a.items b.items (by omega)) ?_)
 refine awOps.rn ?_
 refine awOps.cons (awGuard.cG (fun hg=>c_value_Same _ a.trailer b.trailer (by omega)) ?_)
 refine awOps.rn ?_
 refine AW.rt ?_
 rw [show ∀ x y : Bool,x = y → AE.ret (.bool x) = AE.ret (.bool y) from fun _ _ h=>by rw [h]]
 rw [Bool.eq_iff_iff]
 simp only [decide_eq_true_eq,Bool.cond_false_right,Bool.and_eq_true,Dc_eq a b]
theorem c_foliantref19_SameItem (gl : List (Nat × AV)) (a b : Itm) (h : a.obj.bulk ≤ 16777216:=by first | omega | exact u8_le _ | assumption | (simp; done) | (simp; omega)) : FnP Tryz.prog (gl) 23 [.agg a.cells,.agg b.cells] fun r=>r = .ret (.bool (decide (a = b))):=by
 refine FnP.intro Tryz.func23 rfl rfl (by simp [Tryz.ntmps23]) ?_
 simp only [argEnv,Tryz.ntmps23,Tryz.results23]
 refine AW.rS ?_
 refine AW.rSC ?_
 refine awOps.cons (awGuard.cG (fun hg=>c_foliantref05_Same _ a.obj b.obj) ?_)
 refine awOps.rn ?_
 refine AW.rt ?_
 rw [show ∀ x y : Bool,x = y → AE.ret (.bool x) = AE.ret (.bool y) from fun _ _ h=>by rw [h]]
 rw [Bool.eq_iff_iff]
 simp only [decide_eq_true_eq,Bool.cond_false_right,Bool.and_eq_true,Itm_eq a b,and_assoc]
theorem c_foliantref19_Size (gl : List (Nat × AV)) (d : Dc) (h : d.bulk ≤ 16777216) (hp : d.size ≤ 4611686018427387904) : FnP Tryz.prog (gl) 26 [.agg d.cells] fun r=>r = .ret (.int .i64 d.size):=by
 refine FnP.intro Tryz.func26 rfl rfl (by simp [Tryz.ntmps26]) ?_
 simp only [argEnv,Tryz.ntmps26,Tryz.results26]
 have hlen:=ibulk_len d.items
 have hdb : d.bulk = ibulk d.items + d.trailer.bulk:=rfl
 have hds : d.size = d.trailer.psize + isize d.items:=rfl
 have hk0:=isize_nil
 refine AW.rS ?_
 refine AW.rSC ?_
 refine awOps.cons (awGuard.c1 (c_foliantref05_Size _ d.trailer (by omega) (by omega)) ?_)
 refine awOps.rn ?_
 refine AW.seq ?_
 refine AW.rS ?_
 refine AW.block ?_
 refine AW.lk (S:={ i : Nat // i ≤ d.items.length }) [10,11] (fun s_=>[(3,.int .i64 ((d.trailer.psize + isize (d.items.take s_.1) : Nat) : Int)),(12,.int .i64 s_.1)]) (fun s_=>[(0,.cells d.cells)]) 1 (fun s_=>d.items.length - s_.1) ⟨0,Nat.zero_le _⟩ ?_ ?_
 ·refine St.le.vw [0]
 rintro ⟨i,hi⟩
 try dsimp only at hi
 refine AW.rS ?_
 refine AW.seq ?_
 refine AW.c2 ?_ ?_
 ·intro h11
  have h1:=isize_take h11
  have h2:=isize_take_le d.items (i + 1)
  have hgb:=ibulk_get (l:=d.items) (i:=i) (by omega)
  refine AW.skip ?_
  refine AW.seq ?_
  refine AW.block ?_
  refine AW.rS ?_
  refine AW.rLC ?_
  refine awOps.cons (awGuard.c1 (c_foliantref05_Size _ (d.items.getD i Itm.zero).obj (by omega) (by omega)) ?_)
  refine awOps.rn ?_
  refine AW.rL ?_
  refine ⟨⟨i + 1,by omega⟩,?_,?_⟩
  ·refine St.le.vw [0]
  ·simp only []; omega
 ·intro h11
  refine AW.exit ?_
  refine AW.rS ?_
  refine AW.rt ?_
  obtain rfl : i = d.items.length:=by omega
  rw [List.take_length,hds]
end Go.Proofs

namespace Aw
open Go
theorem ibulk_filter (l : List Itm) (p : Itm → Bool) : ibulk (l.filter p) ≤ ibulk l:=by
 induction l with
 | nil=>simp [ibulk]
 | cons x l ih =>
  rw [List.filter_cons]
  split
  ·rw [ibulk_cons,ibulk_cons]; omega
  ·rw [ibulk_cons]; omega
theorem zero_bulk : Dc.zero.bulk = 1:=by simp [Dc.zero,Dc.bulk,ibulk,Pob.null,Pob.bulk,bulks]
end Aw

set_option linter.unusedVariables false
set_option linter.unusedSimpArgs false
namespace Aw
open Go
theorem hold_ref (o : Pob) : holdsB o = (decide (o.kind = 9) && (decide ((getO o typeK).kind = 5) && (decide ((getO o typeK).str = [79,98,106,83,116,109]) || decide ((getO o typeK).str = [88,82,101,102])))):=by
 unfold holdsB docKind
 by_cases h5 : (getO o typeK).kind = 5
 ·have hb : ∀ a b c : Bool,(bif a then (bif b then true else c) else false) = (a && (true && (b || c))):=by decide
  simp only [if_pos h5,h5,decide_true]
  exact hb _ _ _
 ·simp [h5]
theorem content_knd {i : Itm} (h : chk i.obj 1 = 0) (h' : i.obj.kind = 8 ∨ holdsB i.obj = true) : contentE i = 10:=by unfold contentE; rw [if_neg (by simpa using h),if_pos h']
theorem content_fine {i : Itm} (h : chk i.obj 1 = 0) (h' : ¬ (i.obj.kind = 8 ∨ holdsB i.obj = true)) : contentE i = 0:=by unfold contentE; rw [if_neg (by simpa using h),if_neg h']
theorem trail_idx (k : List UInt8) : 0 ≤ kidxI trailK k ↔ k = [73,68] ∨ k = [73,110,102,111] ∨ k = [82,111,111,116]:=by
 rcases kidxI_cases trailK k with ⟨i,hi,he,hk⟩ | ⟨he,hn⟩
 ·have hi3 : i < 3:=hi
  rw [he]
  refine ⟨fun _=>?_,fun _=>by omega⟩
  obtain rfl | rfl | rfl : i = 0 ∨ i = 1 ∨ i = 2:=by omega
  ·exact .inl hk.symm
  ·exact .inr (.inl hk.symm)
  ·exact .inr (.inr hk.symm)
 ·rw [he]
  refine ⟨fun h=>absurd h (by omega),fun h=>?_⟩
  rcases h with rfl | rfl | rfl
  ·exact absurd rfl (hn 0 (by decide))
  ·exact absurd rfl (hn 1 (by decide))
  ·exact absurd rfl (hn 2 (by decide))
theorem itots_get {l : List Itm} {i : Nat} (h : i < l.length) : (l.getD i Itm.zero).obj.tot + 3 ≤ itots l:=by
 induction l generalizing i with
 | nil=>simp at h
 | cons x l ih =>
  simp only [itots,List.map_cons,List.sum_cons,Itm.tot]
  cases i with
  | zero=>simp only [List.getD_cons_zero]; omega
  | succ i =>
   have:=ih (i:=i) (by simpa using h)
   simp only [List.getD_cons_succ,itots,Itm.tot] at this ⊢
   omega
theorem itots_len (l : List Itm) : 3 * l.length ≤ itots l:=by
 induction l with
 | nil=>simp [itots]
 | cons x l ih=>simp only [itots,List.map_cons,List.sum_cons,List.length_cons,Itm.tot] at ih ⊢; omega
end Aw

namespace Go.Proofs
open Go Aw
set_option linter.unusedSimpArgs false
set_option linter.unusedVariables false
set_option maxRecDepth 100000
set_option maxHeartbeats 4000000
attribute [local go_sem] take_strsAV app1_strsAV take_intsAV drop_intsAV app_intsAV app1_intsAV take_objsAV app1_objsAV
theorem c_foliantref19_Hold (gl : List (Nat × AV)) (o : Pob) (h : o.bulk ≤ 16777216) : FnP Tryz.prog (gl) 105 [.agg o.cells] fun r=>r = .ret (.bool (holdsB o)):=by
 refine FnP.intro Tryz.func105 rfl rfl (by simp [Tryz.ntmps105]) ?_
 simp only [argEnv,Tryz.ntmps105,Tryz.results105]
 refine AW.rS ?_
 refine AW.rSC ?_
 refine awOps.cons (awGuard.c1 (c_foliantref05_Get _ o typeK h) ?_)
 refine awOps.rn ?_
 refine AW.rS ?_
 refine AW.rt ?_
 rw [hold_ref]
 simp [Bool.cond_false_right,Bool.and_assoc]
theorem c_foliantref19_obj (gl : List (Nat × AV)) (i : Itm) (h : i.obj.tot ≤ 16777216) : FnP Tryz.prog (gl) 80 [.agg i.cells] fun r=>r = .ret (.int .i64 (contentE i)):=by
 refine FnP.intro Tryz.func80 rfl rfl (by simp [Tryz.ntmps80]) ?_
 simp only [argEnv,Tryz.ntmps80,Tryz.results80]
 have hb:=Pob.bulk_tot i.obj
 refine AW.rS ?_
 refine AW.seq ?_
 refine AW.rSC ?_
 refine awOps.cons (awGuard.c1 (c_foliantref05_Check _ i.obj h) ?_)
 refine awOps.rn ?_
 refine AW.rS ?_
 refine AW.c2 ?_ ?_
 ·intro h7
  refine AW.rS ?_
  refine AW.rt ?_
  rw [content_bad h7]
 ·intro h7
  refine AW.skip ?_
  refine AW.seq ?_
  refine AW.rSC ?_
  refine awOps.cons (awGuard.cG (fun hg=>c_foliantref19_Hold _ i.obj (by omega)) ?_)
  refine awOps.rn ?_
  refine AW.c2 ?_ ?_
  ·intro h16
   refine AW.rS ?_
   refine AW.rt ?_
   rw [content_knd h7 h16]
  ·intro h16
   refine AW.skip ?_
   refine AW.rS ?_
   refine AW.rt ?_
   rw [content_fine h7 (by rintro (h' | h'); exact h16.1 h'; rw [h16.2] at h'; cases h')]
theorem c_foliantref19_Items (gl : List (Nat × AV)) (l : List Itm) (h : itots l ≤ 16777216) : FnP Tryz.prog (gl) 51 [.sl (itemsAV l)] fun r=>r = .ret (.int .i64 (itemsE l)):=by
 refine FnP.intro Tryz.func51 rfl rfl (by simp [Tryz.ntmps51]) ?_
 simp only [argEnv,Tryz.ntmps51,Tryz.results51]
 have hlen:=itots_len l
 refine AW.rS ?_
 refine AW.seq ?_
 refine AW.rS ?_
 refine AW.block ?_
 refine AW.lk (S:={ k : Nat // k ≤ l.length ∧ itemsE l = itemsFrom l k (l.length - k) }) [0,6,7] (fun s_=>[(8,.int .i64 s_.1)]) (fun s_=>[]) 0 (fun s_=>l.length - s_.1) ⟨0,Nat.zero_le _,rfl⟩ ?_ ?_
 ·refine St.le.vw []
 rintro ⟨k,hk,hs⟩
 try dsimp only at hk
 try dsimp only at hs
 refine AW.rS ?_
 refine AW.seq ?_
 refine AW.c2 ?_ ?_
 ·intro h8
  have hgb:=itots_get (l:=l) (i:=k) (by omega)
  refine AW.skip ?_
  refine AW.seq ?_
  refine AW.block ?_
  refine AW.rS ?_
  refine AW.seq ?_
  refine AW.rS ?_
  refine AW.c2 ?_ ?_
  ·intro h15
   refine AW.rS ?_
   refine AW.rt ?_
   rw [hs,itemsFrom_step h8,if_pos (nums_no h15)]
  ·intro h15
   refine AW.skip ?_
   refine AW.seq ?_
   refine AW.dS [(0,0),(1,0),(2,0),(3,0),(4,1),(5,0),(6,0),(7,0),(8,1),(9,0),(10,1),(11,0),(12,0)] ?_
   refine AW.c2 ?_ ?_
   ·intro h22
    refine AW.rS ?_
    refine AW.rt ?_
    rw [hs,itemsFrom_step h8,if_neg (by rw [nums_yes h15]; simp),if_pos (by omega)]
   ·intro h22
    refine AW.skip ?_
    refine AW.rSC ?_
    refine awOps.cons (awGuard.c1 (c_foliantref19_obj _ (l.getD k Itm.zero) (by omega)) ?_)
    refine awOps.rn ?_
    refine AW.rS ?_
    refine AW.c2 ?_ ?_
    ·intro h31
     refine AW.rS ?_
     refine AW.rt ?_
     rw [hs,itemsFrom_step h8,if_neg (by rw [nums_yes h15]; simp),if_neg (by omega),if_pos h31]
    ·intro h31
     refine AW.skip ?_
     refine AW.rL ?_
     refine ⟨⟨k + 1,by omega,by rw [hs,itemsFrom_step (by omega),if_neg (by rw [nums_yes h15]; simp),if_neg (by omega),if_neg (by simpa using h31)]⟩,?_,?_⟩
     ·refine St.le.vw []
     ·simp only []; omega
 ·intro h8
  refine AW.exit ?_
  refine AW.rS ?_
  refine AW.rt ?_
  rw [hs,show l.length - k = 0 from by omega,itemsFrom]
theorem c_foliantref19_Get (gl : List (Nat × AV)) (d : Dc) (n : Int) (h : d.bulk ≤ 16777216) : FnP Tryz.prog (gl) 36 [.agg d.cells,.int .i64 n] fun r=>r = .ret (.tup [.agg ((lookI d.items n).getD Itm.zero).cells,.bool (lookI d.items n).isSome]):=by
 refine FnP.intro Tryz.func36 rfl rfl (by simp [Tryz.ntmps36]) ?_
 simp only [argEnv,Tryz.ntmps36,Tryz.results36]
 have hlen:=ibulk_len d.items
 have hdb : d.bulk = ibulk d.items + d.trailer.bulk:=rfl
 refine AW.rS ?_
 refine AW.seq ?_
 refine AW.rS ?_
 refine AW.block ?_
 refine AW.lk (S:={ i : Nat // i ≤ d.items.length ∧ ∀ j,j < i → (d.items.getD j Itm.zero).num ≠ n }) [1,4,9,10] (fun s_=>[(11,.int .i64 s_.1)]) (fun s_=>[(0,.cells d.cells),(1,.cells [.int .i64 0,.int .i64 0,.int .i64 0,.int .i64 0,.int .i64 0,.str [],.raw (.slice none 0 0),.raw (.slice none 0 0)])]) 2 (fun s_=>d.items.length - s_.1) ⟨0,Nat.zero_le _,fun j h=>absurd h (by omega)⟩ ?_ ?_
 ·refine St.le.vw [0,1]
 rintro ⟨i,hi,hs⟩
 try dsimp only at hi
 try dsimp only at hs
 refine AW.rS ?_
 refine AW.seq ?_
 refine AW.c2 ?_ ?_
 ·intro h8
  refine AW.skip ?_
  refine AW.seq ?_
  refine AW.block ?_
  refine AW.rS ?_
  refine AW.rS ?_
  refine AW.c2 ?_ ?_
  ·intro h14
   have hix:=iidx_hit h8 hs h14
   refine AW.rS ?_
   refine AW.rt ?_
   rw [look_hit (by omega),hix]
   rfl
  ·intro h14
   refine AW.skip ?_
   refine AW.rL ?_
   refine ⟨⟨i + 1,by omega,fun j hj=>(Nat.lt_or_ge j i).elim (hs j) (fun h=>(show j = i by omega) ▸ h14)⟩,?_,?_⟩
   ·refine St.le.vw [0,1]
   ·simp only []; omega
 ·intro h8
  refine AW.exit ?_
  refine AW.rS ?_
  refine AW.rt ?_
  have hix:=iidx_miss (l:=d.items) (n:=n) (fun j hj=>hs j (by omega))
  rw [look_miss (by omega)]
  rfl
theorem c_foliantref19_Follow (gl : List (Nat × AV)) (d : Dc) (o : Pob) (h : d.bulk ≤ 16777216) : FnP Tryz.prog (gl) 24 [.agg d.cells,.agg o.cells] fun r=>r = .ret (.agg (followO d o).cells):=by
 refine FnP.intro Tryz.func24 rfl rfl (by simp [Tryz.ntmps24]) ?_
 simp only [argEnv,Tryz.ntmps24,Tryz.results24]
 have hlen:=ibulk_len d.items
 have hdb : d.bulk = ibulk d.items + d.trailer.bulk:=rfl
 refine AW.rS ?_
 refine AW.seq ?_
 refine AW.rS ?_
 refine AW.c2 ?_ ?_
 ·intro h4
  refine AW.rS ?_
  refine AW.rt ?_
  rw [followO,if_pos h4]
 ·intro h4
  refine AW.skip ?_
  refine AW.seq ?_
  refine AW.rS ?_
  refine AW.block ?_
  refine AW.lk (S:={ i : Nat // i ≤ d.items.length ∧ ∀ j,j < i → (d.items.getD j Itm.zero).num ≠ o.num }) [3,4,12,13] (fun s_=>[(14,.int .i64 s_.1)]) (fun s_=>[(0,.cells d.cells),(1,.cells o.cells),(2,.cells [.int .i64 0,.int .i64 0,.int .i64 0,.str [],.raw (.slice none 0 0),.raw (.slice none 0 0)])]) 3 (fun s_=>d.items.length - s_.1) ⟨0,Nat.zero_le _,fun j h=>absurd h (by omega)⟩ ?_ ?_
  ·refine St.le.vw [0,1,2]
  rintro ⟨i,hi,hs⟩
  try dsimp only at hi
  try dsimp only at hs
  refine AW.rS ?_
  refine AW.seq ?_
  refine AW.c2 ?_ ?_
  ·intro h15
   refine AW.skip ?_
   refine AW.seq ?_
   refine AW.block ?_
   refine AW.rS ?_
   refine AW.rS ?_
   refine AW.c2 ?_ ?_
   ·intro h21
    have hix:=iidx_hit h15 hs h21
    refine AW.seq ?_
    refine AW.rS ?_
    refine AW.c2 ?_ ?_
    ·intro h24
     refine AW.rS ?_
     refine AW.rt ?_
     rw [followO,if_neg (by simp [h4]),if_neg (by omega),hix]
     rw [if_pos (by simpa using h24)]
     rfl
    ·intro h24
     refine AW.skip ?_
     refine AW.rS ?_
     refine AW.rt ?_
     rw [followO,if_neg (by simp [h4]),if_neg (by omega),hix]
     rw [if_neg (by simpa using h24)]
     rfl
   ·intro h21
    refine AW.skip ?_
    refine AW.rL ?_
    refine ⟨⟨i + 1,by omega,fun j hj=>(Nat.lt_or_ge j i).elim (hs j) (fun h=>(show j = i by omega) ▸ h21)⟩,?_,?_⟩
    ·refine St.le.vw [0,1,2]
    ·simp only []; omega
  ·intro h15
   refine AW.exit ?_
   refine AW.rS ?_
   refine AW.rt ?_
   have hix:=iidx_miss (l:=d.items) (n:=o.num) (fun j hj=>hs j (by omega))
   rw [followO,if_neg (by simp [h4]),if_pos (by omega)]
   rfl
theorem c_foliantref19_trail (gl : List (Nat × AV)) (d : Dc) (h : d.tot ≤ 16777216) : FnP Tryz.prog (gl) 52 [.agg d.cells] fun r=>r = .ret (.int .i64 (trailE d)):=by
 refine FnP.intro Tryz.func52 rfl rfl (by simp [Tryz.ntmps52]) ?_
 simp only [argEnv,Tryz.ntmps52,Tryz.results52]
 have h0:=Dc.bulk_tot d
 have h1 : d.tot = itots d.items + d.trailer.tot:=rfl
 have h2:=Pob.bulk_tot d.trailer
 have hkb:=Pob.bulk_eq d.trailer
 have hrb:=get_bulk d.trailer rootK
 refine AW.rS ?_
 refine AW.rS ?_
 refine AW.seq ?_
 refine AW.rSC ?_
 refine awOps.cons (awGuard.c1 (c_foliantref05_Check _ d.trailer (by omega)) ?_)
 refine awOps.rn ?_
 refine AW.rS ?_
 refine AW.c2 ?_ ?_
 ·intro h8
  refine AW.rS ?_
  refine AW.rt ?_
  ·rw [trail_bad h8]
  all_goals first | contradiction | rfl | (simp; done) | (simp; omega)
 ·intro h8
  refine AW.skip ?_
  refine AW.seq ?_
  refine AW.rS ?_
  refine AW.c2 ?_ ?_
  ·intro h15
   refine AW.rS ?_
   refine AW.rt ?_
   rw [trail_kind h8 h15]
  ·intro h15
   refine AW.skip ?_
   refine AW.seq ?_
   refine AW.rS ?_
   refine AW.block ?_
   refine AW.lk (S:={ i : Nat // i ≤ d.trailer.keys.length ∧ ∀ j,j < i → 0 ≤ kidxI trailK (d.trailer.keys.getD j []) }) [1,3,20,21] (fun s_=>[(22,.int .i64 s_.1)]) (fun s_=>[(0,.cells d.cells),(1,.cells d.trailer.cells)]) 2 (fun s_=>d.trailer.keys.length - s_.1) ⟨0,Nat.zero_le _,fun j h=>absurd h (by omega)⟩ ?_ ?_
   ·refine St.le.vw [0,1]
   rintro ⟨i,hi,hs⟩
   try dsimp only at hi
   try dsimp only at hs
   refine AW.rS ?_
   refine AW.seq ?_
   refine AW.c2 ?_ ?_
   ·intro h26
    refine AW.skip ?_
    refine AW.seq ?_
    refine AW.block ?_
    refine AW.rS ?_
    refine AW.rS ?_
    refine AW.c2 ?_ ?_
    ·intro h32
     refine AW.rS ?_
     refine AW.rt ?_
     rw [trail_key h8 h15 (fun hh=>by have:=(trail_idx _).1 (hh i h26); rcases this with e | e | e; exact h32.1.1 e; exact h32.1.2 e; exact h32.2 e)]
    ·intro h32
     have hkx : 0 ≤ kidxI trailK (d.trailer.keys.getD i []):=(trail_idx _).2 (by rcases h32 with (e | e) | e; exact .inl e; exact .inr (.inl e); exact .inr (.inr e))
     refine AW.skip ?_
     refine AW.rL ?_
     refine ⟨⟨i + 1,by omega,fun j hj=>(Nat.lt_or_ge j i).elim (hs j) (fun h=>(show j = i by omega) ▸ hkx)⟩,?_,?_⟩
     ·refine St.le.vw [0,1]
     ·simp only []; omega
   ·intro h26
    refine AW.exit ?_
    have htk : trailOk d.trailer.keys:=fun j hj=>hs j (by omega)
    refine AW.rSC ?_
    refine awOps.cons (awGuard.c1 (c_foliantref05_Get _ d.trailer rootK (by omega)) ?_)
    refine awOps.rn ?_
    refine AW.seq ?_
    refine AW.rSC ?_
    refine awOps.cons (awGuard.cG (fun hg=>c_foliantref19_Follow _ d (getO d.trailer rootK) (by omega)) ?_)
    refine awOps.rn ?_
    refine AW.c2 ?_ ?_
    ·intro h47
     refine AW.rS ?_
     refine AW.rt ?_
     rw [trail_root h8 h15 htk,if_pos h47]
    ·intro h47
     refine AW.skip ?_
     refine AW.rS ?_
     refine AW.rt ?_
     rw [trail_root h8 h15 htk,if_neg (by simp [h47])]
theorem c_foliantref19_Check (gl : List (Nat × AV)) (d : Dc) (h : d.tot ≤ 16777216) : FnP Tryz.prog (gl) 21 [.agg d.cells] fun r=>r = .ret (.int .i64 (docE d)):=by
 refine FnP.intro Tryz.func21 rfl rfl (by simp [Tryz.ntmps21]) ?_
 simp only [argEnv,Tryz.ntmps21,Tryz.results21]
 have h1 : d.tot = itots d.items + d.trailer.tot:=rfl
 refine AW.rS ?_
 refine AW.seq ?_
 refine AW.rSC ?_
 refine awOps.cons (awGuard.c1 (c_foliantref19_Items _ d.items (by omega)) ?_)
 refine awOps.rn ?_
 refine AW.rS ?_
 refine AW.c2 ?_ ?_
 ·intro h7
  refine AW.rS ?_
  refine AW.rt ?_
  rw [doc_bad h7]
 ·intro h7
  refine AW.skip ?_
  refine AW.rSC ?_
  refine awOps.cons (awGuard.c1 (c_foliantref19_trail _ d h) ?_)
  refine awOps.rn ?_
  refine AW.rt ?_
  rw [doc_trail h7]
end Go.Proofs

namespace Go.Proofs
open Go Aw
set_option linter.unusedSimpArgs false
set_option linter.unusedVariables false
set_option maxRecDepth 100000
set_option maxHeartbeats 4000000
attribute [local go_sem] take_strsAV app1_strsAV take_intsAV drop_intsAV app_intsAV app1_intsAV take_objsAV app1_objsAV
theorem app1_itemsAV (a : List Itm) (i : Itm) : itemsAV a ++ [[.int .i64 i.num,.int .i64 i.gen,.int .i64 i.obj.kind,.int .i64 i.obj.num,.int .i64 i.obj.gen,.str i.obj.str,.sl (strsAV i.obj.keys),.sl (objsAV i.obj.kids)]] = itemsAV (a ++ [i]):=by
 simp only [itemsAV,List.map_append,List.map_cons,List.map_nil]
 rfl
attribute [local go_sem] take_itemsAV app_itemsAV app1_itemsAV
theorem c_foliantref19_SameItems (gl : List (Nat × AV)) (a b : List Itm) (ha : ibulk a ≤ 16777216) : FnP Tryz.prog (gl) 41 [.sl (itemsAV a),.sl (itemsAV b)] fun r=>r = .ret (.bool (decide (a = b))):=by
 refine FnP.intro Tryz.func41 rfl rfl (by simp [Tryz.ntmps41]) ?_
 simp only [argEnv,Tryz.ntmps41,Tryz.results41]
 have hla:=ibulk_len a
 refine AW.rS ?_
 refine AW.seq ?_
 refine AW.rS ?_
 refine AW.c2 ?_ ?_
 ·intro h4
  refine AW.rS ?_
  refine AW.rt ?_
  rw [decide_eq_false (fun e=>h4 (by rw [e]))]
 ·intro h4
  refine AW.skip ?_
  refine AW.seq ?_
  refine AW.rS ?_
  refine AW.block ?_
  refine AW.lk (S:={ i : Nat // i ≤ a.length ∧ a.take i = b.take i }) [0,1,12] (fun s_=>[(13,.int .i64 s_.1)]) (fun s_=>[]) 0 (fun s_=>a.length - s_.1) ⟨0,Nat.zero_le _,rfl⟩ ?_ ?_
  ·refine St.le.vw []
  rintro ⟨i,hi,hs⟩
  try dsimp only at hi
  try dsimp only at hs
  refine AW.rS ?_
  refine AW.seq ?_
  refine AW.c2 ?_ ?_
  ·intro h15
   have hga:=ibulk_get (l:=a) (i:=i) (by omega)
   refine AW.skip ?_
   refine AW.seq ?_
   refine AW.block ?_
   refine AW.rS ?_
   refine AW.fS [0,1,2,3,4,5,6,7,8,9] [] ?_
   refine awFun.rn ?_
   refine awFun.c1 [19,23] (c_foliantref19_SameItem _ (a.getD i Itm.zero) (b.getD i Itm.zero) (by omega)) ?_
   refine awFun.rn ?_
   rw [Aw.awFun_nil,Aw.awPlan_nil]
   refine AW.c2 ?_ ?_
   ·intro h25
    refine AW.rS ?_
    refine AW.rt ?_
    rw [decide_eq_false (fun e=>h25 (by rw [e]))]
   ·intro h25
    refine AW.skip ?_
    refine AW.rL ?_
    refine ⟨⟨i + 1,by omega,takeItm_succ h15 (by omega) hs h25⟩,?_,?_⟩
    ·refine St.le.vw []
    ·simp only []; omega
  ·intro h15
   refine AW.exit ?_
   refine AW.rS ?_
   refine AW.rt ?_
   rw [List.take_of_length_le (by omega),List.take_of_length_le (by omega)] at hs
   simp [hs]
theorem c_foliantref19_Same (gl : List (Nat × AV)) (a b : Dc) (h : a.bulk ≤ 16777216) : FnP Tryz.prog (gl) 12 [.agg a.cells,.agg b.cells] fun r=>r = .ret (.bool (decide (a = b))):=by
 refine FnP.intro Tryz.func12 rfl rfl (by simp [Tryz.ntmps12]) ?_
 simp only [argEnv,Tryz.ntmps12,Tryz.results12]
 simp only [Dc.bulk] at h
 refine AW.rS ?_
 refine AW.rSC ?_
 refine awOps.cons (awGuard.c1 (c_foliantref19_SameItems _ a.items b.items (by omega)) ?_)
 refine awOps.rn ?_
 refine awOps.cons (awGuard.cG (fun hg=>c_foliantref05_Same _ a.trailer b.trailer (by omega)) ?_)
 refine awOps.rn ?_
 refine AW.rt ?_
 rw [show ∀ x y : Bool,x = y → AE.ret (.bool x) = AE.ret (.bool y) from fun _ _ h=>by rw [h]]
 rw [Bool.eq_iff_iff]
 simp only [decide_eq_true_eq,Bool.cond_false_right,Bool.and_eq_true,Dc_eq a b]
end Go.Proofs

namespace Aw
open Go
abbrev KI : Int → AV:=fun n=>.int .i64 n
def VI (i : Itm) : AV:=.agg i.cells
def netL (l : List Itm) : List (Int × Itm):=l.map fun i=>(i.num,i)
def leadI (l : List Itm) (r : Pob) : Itm:=(mfind (netL l) r.num).getD Itm.zero
def leadB (l : List Itm) (r : Pob) : Bool:=(mfind (netL l) r.num).isSome && decide ((leadI l r).gen = r.gen)
theorem netL_nil : netL [] = []:=rfl
theorem netL_take {l : List Itm} {k : Nat} (h : k < l.length) : netL (l.take (k + 1)) = netL (l.take k) ++ [((l.getD k Itm.zero).num,l.getD k Itm.zero)]:=by
 simp only [netL,List.map_take]
 rw [List.take_add_one (l:=l.map _)]
 simp [h,List.getD]
theorem netL_new {l : List Itm} {k : Nat} (hs : incrN l) (h : k < l.length) : mset (netL (l.take k)) (l.getD k Itm.zero).num (l.getD k Itm.zero) = netL (l.take (k + 1)):=by
 rw [netL_take h]
 apply mset_new
 intro hm
 simp only [netL,List.map_map,List.mem_map,Function.comp] at hm
 obtain ⟨x,hx,e⟩:=hm
 obtain ⟨j,hj,rfl⟩:=List.mem_iff_getElem.1 hx
 have hj' : j < k:=by simp at hj; omega
 have:=hs j k hj' h
 simp only [List.getElem_take] at e
 rw [List.getD_eq_getElem?_getD,List.getElem?_eq_getElem (by omega)] at this
 simp only [Option.getD_some] at this
 omega
theorem zero_itm : ∀ m : Mem,Rep m 1 (VI Itm.zero) (.agg #[.int .i64 0,.int .i64 0,.int .i64 0,.int .i64 0,.int .i64 0,.string ⟨#[]⟩,.slice none 0 0,.slice none 0 0]):=by
 intro m
 simp only [VI,Itm.cells,Rep,RepL]
 exact ⟨_,rfl,_,_,rfl,rfl,_,_,rfl,rfl,_,_,rfl,rfl,_,_,rfl,rfl,_,_,rfl,rfl,_,_,rfl,rfl,_,_,rfl,.inl ⟨rfl,none,0,rfl⟩,_,_,rfl,.inl ⟨rfl,none,0,rfl⟩,rfl⟩
section
variable {S α : Type} (stp : S → α → S × Bool)
def runL : S → List α → S × Bool
 | s,[]=>(s,false)
 | s,x :: l=>if (stp s x).2 then ((stp s x).1,true) else runL (stp s x).1 l
theorem runL_append (s : S) (a b : List α) : runL stp s (a ++ b) = if (runL stp s a).2 then ((runL stp s a).1,true) else runL stp (runL stp s a).1 b:=by
 induction a generalizing s with
 | nil=>simp [runL]
 | cons x a ih =>
  simp only [List.cons_append,runL]
  by_cases h : (stp s x).2 = true
  ·simp only [if_pos h,if_true]
  ·simp only [if_neg h]
   exact ih _
theorem runL_inv {I : S → Prop} (hI : ∀ s x,I s → I (stp s x).1) : ∀ (l : List α) (s : S),I s → I (runL stp s l).1
 | [],s,h=>h
 | x :: l,s,h=>by
  simp only [runL]
  split
  ·exact hI s x h
  ·exact runL_inv hI l _ (hI s x h)
end
def refW {S : Type} (stp : S → Pob → S × Bool) (s : S) (o : Pob) : S × Bool:=if o.kind = 8 then stp s o else (s,false)
def walkR {S : Type} (stp : S → Pob → S × Bool) (s : S) (l : List Pob) : S × Bool:=runL (refW stp) s l
section
variable {S : Type} {stp : S → Pob → S × Bool}
theorem walkR_nil (s : S) : walkR stp s [] = (s,false):=rfl
theorem walkR_stop {s : S} {o : Pob} {l : List Pob} (hk : o.kind = 8) (h : (stp s o).2 = true) : walkR stp s (o :: l) = ((stp s o).1,true):=by
 simp [walkR,runL,refW,hk,h]
theorem walkR_go {s : S} {o : Pob} {l : List Pob} (hk : o.kind = 8) (h : (stp s o).2 = false) : walkR stp s (o :: l) = walkR stp (stp s o).1 l:=by
 simp [walkR,runL,refW,hk,h]
theorem walkR_no {s : S} {o : Pob} {l : List Pob} (hk : ¬ o.kind = 8) : walkR stp s (o :: l) = walkR stp s l:=by
 simp [walkR,runL,refW,hk]
theorem walkR_app (s : S) (a b : List Pob) : walkR stp s (a ++ b) = if (walkR stp s a).2 then ((walkR stp s a).1,true) else walkR stp (walkR stp s a).1 b:=runL_append _ s a b
theorem walkR_inv {I : S → Prop} (hI : ∀ s x,I s → I (stp s x).1) (l : List Pob) (s : S) (h : I s) : I (walkR stp s l).1 :=
 runL_inv (refW stp) (fun s x h=>by unfold refW; split; exact hI s x h; exact h) l s h
theorem walkR_kid {s : S} {l : List Pob} {i : Nat} (hi : i < l.length) (hg : (walkR stp s (pres (l.take i))).2 = false) (hh : (walkR stp (walkR stp s (pres (l.take i))).1 (l.getD i Pob.null).pre).2 = true) :
  walkR stp s (pres l) = ((walkR stp (walkR stp s (pres (l.take i))).1 (l.getD i Pob.null).pre).1,true):=by
 have e : pres l = (pres (l.take i) ++ (l.getD i Pob.null).pre) ++ pres (l.drop (i + 1)):=by
  rw [← pres_take hi,← pres_append,List.take_append_drop]
 rw [e,walkR_app,walkR_app]
 simp only [hg,Bool.false_eq_true,if_false,hh,if_true]
theorem walkR_more {s : S} {l : List Pob} {i : Nat} (hi : i < l.length) (hg : (walkR stp s (pres (l.take i))).2 = false) (hh : (walkR stp (walkR stp s (pres (l.take i))).1 (l.getD i Pob.null).pre).2 = false) :
  walkR stp s (pres (l.take (i + 1))) = ((walkR stp (walkR stp s (pres (l.take i))).1 (l.getD i Pob.null).pre).1,false):=by
 rw [pres_take hi,walkR_app]
 simp only [hg,Bool.false_eq_true,if_false]
 rw [← hh]
end
def allL (d : Dc) : List (Int × Pob):=(0,d.trailer) :: d.items.map fun i=>(i.num,i.obj)
def foldI {S : Type} (stp : S → Int → Pob → S) (s : S) (l : List Itm) : S:=l.foldl (fun s i=>stp s i.num i.obj) s
theorem le_sum_mem : ∀ {l : List Nat} {x : Nat},x ∈ l → x ≤ l.sum
 | [],_,h=>by cases h
 | y :: l,x,h=>by
  rw [List.sum_cons]
  rcases List.mem_cons.1 h with rfl | h
  ·omega
  ·have:=le_sum_mem h; omega
theorem allL_bulk {d : Dc} {n : Int} {o : Pob} (hm : (n,o) ∈ allL d) {k : Nat} (h : d.bulk ≤ k) : o.bulk ≤ k:=by
 have hb : d.bulk = ibulk d.items + d.trailer.bulk:=rfl
 rcases List.mem_cons.1 hm with e | hm
 ·injection e with _ e
  subst e
  omega
 ·obtain ⟨i,hi,e⟩:=List.mem_map.1 hm
  injection e with _ e
  subst e
  have : i.obj.bulk + 1 ≤ ibulk d.items:=by
   unfold ibulk
   exact le_sum_mem (List.mem_map.2 ⟨i,hi,rfl⟩)
  omega
end Aw

namespace Aw
open Go
section
variable {S : Type} {stp : S → Pob → S × Bool}
theorem walkR_cons (s : S) (o : Pob) (l : List Pob) : walkR stp s (o :: l) = if o.kind = 8 then (if (stp s o).2 then ((stp s o).1,true) else walkR stp (stp s o).1 l) else walkR stp s l:=by
 by_cases hk : o.kind = 8
 ·simp only [walkR,runL,refW,if_pos hk]
 ·simp only [walkR,runL,refW,if_neg hk,Bool.false_eq_true,if_false]
theorem walkR_last (h : ∀ s o,(stp s o).2 = false) (l : List Pob) (s : S) : (walkR stp s l).2 = false:=by
 induction l generalizing s with
 | nil=>rfl
 | cons o l ih =>
  rw [walkR_cons]
  split
  ·rw [if_neg (by rw [h]; simp)]; exact ih _
  ·exact ih _
theorem foldI_mem {S : Type} {g : S → Int → Pob → S} {M : S → Int → Prop} {A : Int → Pob → Int → Prop} (h : ∀ s n o x,M (g s n o) x ↔ M s x ∨ A n o x) (l : List Itm) (s : S) (x : Int) : M (foldI g s l) x ↔ M s x ∨ ∃ i ∈ l,A i.num i.obj x:=by
 induction l generalizing s with
 | nil=>simp [foldI]
 | cons i l ih =>
  have e : foldI g s (i :: l) = foldI g (g s i.num i.obj) l:=rfl
  rw [e,ih,h]
  simp only [List.mem_cons,exists_eq_or_imp,or_assoc]
end
theorem doc_chk {d : Dc} (h : docE d = 0) : ∀ q ∈ allL d,∃ k,chk q.2 k = 0:=by
 intro q hq
 rcases List.mem_cons.1 hq with rfl | hq
 ·refine ⟨1,?_⟩
  have h1:=docE_trail h
  by_cases hc : chk d.trailer 1 = 0
  ·exact hc
  ·rw [trail_bad hc] at h1
   exact absurd h1 hc
 ·obtain ⟨i,hi,rfl⟩:=List.mem_map.1 hq
  obtain ⟨j,hj,rfl⟩:=List.mem_iff_getElem.1 hi
  have h1:=(items_ok.1 (docE_items h) j hj).2.2
  rw [List.getD_eq_getElem?_getD,List.getElem?_eq_getElem hj] at h1
  simp only [Option.getD_some] at h1
  refine ⟨1,?_⟩
  by_cases hc : chk d.items[j].obj 1 = 0
  ·exact hc
  ·exfalso
   unfold contentE at h1
   simp_all
theorem litwf {x : Int} (h : 1 ≤ x ∧ x ≤ 8191) : (Lit.int .i64 x).wf = true:=by
 have e1 : IntKind.i64.min = -9223372036854775808:=by decide
 have e2 : IntKind.i64.max = 9223372036854775807:=by decide
 simp only [Lit.wf,e1,e2,Bool.and_eq_true,decide_eq_true_eq]
 omega
end Aw
