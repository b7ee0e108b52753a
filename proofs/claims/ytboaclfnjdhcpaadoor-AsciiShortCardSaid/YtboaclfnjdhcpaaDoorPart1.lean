/- A part of the proof: no condition of its own. -/
import Derived.Test.YtboaclfnjdhcpaaDoorCore46
import Derived.ProofKit
import Derived.Below
import Derived.ChangeSame
import Derived.HandedShaped
import Derived.OpenShut
import Derived.Shelf.Small.Strs
import Derived.Shelf.Strings.Search1
import Derived.Shelf.Strings.Builder1
import Derived.Shelf.Strings.Repeat
import Derived.Test.YtboaclfnjdhcpaaDoorProg
namespace Aw
open Go Go.RowKit Go.WideShapes Go.ChangeShapes
theorem FnP.below {P : Program} {gl : List (Nat × AV)} {f : FuncId} {xs : List AV} (h : FnP P gl f xs fun r=>r = .ret (.bool true)) {m : Mem} {vs : List Value} {W : World} (hw : m.w = W)
  (hm : Start m gl) (hP : m.Pr = fun b=>b < W.heap.size) (hv : RepL m 1 xs vs) : Calls P f vs.toArray W fun e W'=>e = .returned (.bool true) ∧ Below W.heap.size W W':=by
 subst hw
 refine (h.calls m vs hm hv).mono ?_
 rintro e w' ⟨m',r,rfl,hle,_,hend,rfl⟩
 obtain ⟨v,rfl,hv⟩:=hend
 simp only [Rep] at hv
 subst hv
 exact ⟨rfl,hle.os,hle.tape,hle.output,hle.size,fun b hb=>hle.block b (by rw [hP]; exact hb)⟩

section
variable {H : Type} {enc : TypeId × Value → H} {P : Program}
theorem trodAll_stays (hl : laidOutB P = true) {W W' : World} {sp' : Nat → Bool} : ∀ {ts : List TypeId} {vs : List Value} {ds : List (DataW H)} {ps : List MemPlace},
  ts.all (fun t=>P.readableRec t && decide (t < P.types.size)) = true → DataW.TrodAll enc P W 0 (fun _=>true) true ts vs ds ps → (∀ p ∈ ps,W.sameAt W' p) → (∀ p ∈ ps,sp' p.block = true) →
  DataW.TrodAll enc P W' 0 sp' true ts vs ds ps
 | [],vs,ds,ps,_,h,_,_=>by
  obtain ⟨rfl,rfl,rfl⟩:=trodAll_nil h
  exact trodAll_mk0
 | t :: ts,vs,ds,ps,hr,h,h1,h2=>by
  obtain ⟨v,vs,d,ds,p,q,rfl,rfl,rfl,hv,hr'⟩:=trodAll_cons h
  simp only [List.all_cons,Bool.and_eq_true,decide_eq_true_eq] at hr
  exact trodAll_cons_mk (WideElems.Trod_stays hl hr.1.1 hr.1.2 hv (fun x hx=>h1 x (by simp [hx])) (fun x hx=>h2 x (by simp [hx])))
   (trodAll_stays hl (by simpa using hr.2) hr' (fun x hx=>h1 x (by simp [hx])) (fun x hx=>h2 x (by simp [hx])))

theorem law_post {f : Func} {s : ChangeSpec} {fresh handsOn again : Bool} {W W' : World} {args : Array Value} {ds gs : List (DataW H)} {before : List MemPlace} {tb : TypeId} (hl : laidOutB P = true)
  (hrt : f.resultTypes = #[tb]) (htb : P.underlying tb = some .bool) (hps : f.params.toList.all (fun t=>P.readableRec t && decide (t < P.types.size)) = true) (hvar : s.vars = [])
  (hs : s.fn H (ds ++ gs) = { results:=[.lit (.bool true)],args:=ds }) (hW : DataW.Whole enc P f.params.toList s.vars false W args.toList ds gs before) (hb : Below W.heap.size W W') :
  s.post enc P f false fresh handsOn again W args (.bool true) W':=by
 have hlt : ∀ p ∈ before,p.block < W.heap.size:=fun p hp=>hW.lt p hp
 have hold : ∀ p ∈ before,(fun b=>decide (b < W.heap.size)) p.block = true:=fun p hp=>by simpa using hlt p hp
 have hres : ∀ (b : Nat) (sp : Nat → Bool) (hd : Bool),DataW.TrodAll enc P W' b sp hd f.resultTypes.toList ((Value.bool true).resultList f.resultTypes.size) (s.fn H (ds ++ gs)).results []:=by
  intro b sp hd
  rw [hrt,hs]
  exact trodAll_mk1 ⟨1,by simp [DataW.trod,Value.cells,htb]⟩
 obtain ⟨p,q,hA,hV,e,hz,hn⟩:=hW
 rw [hvar] at hV
 obtain ⟨rfl,rfl⟩:=trodVars_none hV
 rw [List.append_nil] at e
 subst e
 have hargs : ∀ sp : Nat → Bool,(∀ x ∈ before,sp x.block = true) → DataW.TrodAll enc P W' 0 sp true f.params.toList args.toList (s.fn H (ds ++ [])).args before:=by
  intro sp hsp
  rw [hs]
  exact trodAll_stays hl hps hA (fun x hx=>hb.same (hlt x hx)) hsp
 have hvars : ∀ sp : Nat → Bool,DataW.TrodVars enc P W' sp s.vars (s.fn H (ds ++ [])).vars []:=by
  intro sp
  rw [hs,hvar]
  rfl
 have hW0 : DataW.Whole enc P f.params.toList s.vars false W args.toList ds [] before:=⟨before,[],hA,by rw [hvar]; rfl,by simp,hz,hn⟩
 refine ⟨ds,[],before,[],before,[],hW0,hres _ _ _,hargs _ hold,hvars _,World.keptBut_mono (fun p hp=>⟨hp,Or.inr (Or.inl hp)⟩) (hb.frame (· ∈ before)),fun _=>?_⟩
 refine ⟨?_,_,_,([] ++ before) ++ [],⟨[] ++ before,[],trodAll_append (hargs _ (fun _ _=>rfl)) (hres _ _ _),hvars _,rfl,?_,?_⟩,?_⟩
 ·exact ok_one hrt rfl (okWide_bool_mk htb _)
 ·intro b off hp
  have hin : MemPlace.cell b off ∈ before:=by simpa using hp
  rw [hb.frozen (hlt _ hin)]
  exact hz b off hin
 ·intro ha
  cases ha
 ·intro p hp _
  simpa using hp
end
def gm0 (W : World) : Mem:={ w:=W,F:=fun _ _=>False,Pr:=fun b=>b < W.heap.size,ρ:=fun _=>none,np:=0 }
theorem gstart0 (W : World) : Aw.Start (gm0 W) []:=⟨fun _ _ h=>h.elim,fun _ hb=>hb,fun g x hg=>by simp [Aw.get] at hg,rfl,fun _=>rfl⟩
def gm1 (W : World) (g : Nat) : Mem:={ w:=W,F:=fun b o=>b = g ∧ o = 0,Pr:=fun b=>b < W.heap.size,ρ:=fun _=>none,np:=0 }
theorem gstart1 {W : World} {g : Nat} {n : Int} (h : W.cell? ⟨g,0,none⟩ = some (.int .i64 n)) : Aw.Start (gm1 W g) [(g,.cptr [.int .i64 n])]:=by
 have h0 : g < W.heap.size:=by
  rcases Nat.lt_or_ge g W.heap.size with hlt | hge
  ·exact hlt
  ·have : W.heap[g]? = none:=by rw [Array.getElem?_eq_none]; exact hge
   simp [World.cell?,this] at h
 refine ⟨fun b o hb=>by obtain ⟨rfl,_⟩:=hb; exact h0,fun _ hb=>hb,?_,rfl,fun _=>rfl⟩
 intro g' x hg
 simp only [Aw.get] at hg
 split at hg
 ·rename_i e
  injection hg with hg
  subst hg e
  simp only [Rep,RepC]
  exact ⟨g,0,rfl,⟨rfl,rfl⟩,⟨_,h,rfl⟩,trivial⟩
 ·cases hg
theorem rep_str {m : Mem} {k : Nat} (s : ByteArray) : Rep m k (.str s.data.toList) (.string s):=by simp only [Rep]
theorem rep_int {m : Mem} {k : Nat} {ki : IntKind} (n : Int) : Rep m k (.int ki n) (.int ki n):=by simp only [Rep]
theorem rep_bool {m : Mem} {k : Nat} (b : Bool) : Rep m k (.bool b) (.bool b):=by simp only [Rep]
theorem repl_nil {m : Mem} {k : Nat} : RepL m k [] []:=by simp only [RepL]
theorem repl_cons {m : Mem} {k : Nat} {x : AV} {v : Value} {xs : List AV} {vs : List Value} (h : Rep m k x v) (hs : RepL m k xs vs) : RepL m k (x :: xs) (v :: vs):=by
 simp only [RepL]
 exact ⟨v,vs,rfl,h,hs⟩
theorem wf_i64 {n : Int} (h : (Lit.int .i64 n).wf = true) : -9223372036854775808 ≤ n ∧ n ≤ 9223372036854775807:=by
 simpa [Lit.wf,IntKind.min,IntKind.max,IntKind.bits,IntKind.signed] using h
theorem wf_u8 {n : Int} (h : (Lit.int .u8 n).wf = true) : 0 ≤ n ∧ n ≤ 255:=by
 simpa [Lit.wf,IntKind.min,IntKind.max,IntKind.bits,IntKind.signed] using h
end Aw

namespace Aw
open Go Go.RowKit Go.WideShapes Go.ChangeShapes
mutual
def dbulk {H : Type} : DataW H → Nat
 | .lit (.string bytes)=>bytes.length + 1
 | .lit _=>1
 | .nil=>1
 | .ptr d=>dbulk d + 1
 | .slice elems spare=>dbulks elems + dbulks spare + 1
 | .agg parts=>dbulks parts + 1
 | .iface _ d=>dbulk d + 1
 | .map _=>1
 | .held _=>1
def dbulks {H : Type} : List (DataW H) → Nat
 | []=>0
 | d :: r=>dbulk d + dbulks r
end
theorem dbulk_pos {H : Type} (d : DataW H) : 1 ≤ dbulk d:=by
 cases d with
 | lit l=>cases l <;> simp [dbulk]
 | _=>simp [dbulk]
def gmA (W : World) : Mem:={ w:=W,F:=fun b _=>b < W.heap.size,Pr:=fun b=>b < W.heap.size,ρ:=fun _=>none,np:=0 }
theorem gstartA0 (W : World) : Aw.Start (gmA W) []:=⟨fun _ _ h=>h,fun _ hb=>hb,fun g x hg=>by simp [Aw.get] at hg,rfl,fun _=>rfl⟩
theorem cell_lt {W : World} {a : Addr} {v : Value} (h : W.cell? a = some v) : a.block < W.heap.size:=by
 rcases Nat.lt_or_ge a.block W.heap.size with hlt | hge
 ·exact hlt
 ·have : W.heap[a.block]? = none:=by rw [Array.getElem?_eq_none]; exact hge
  simp [World.cell?,this] at h
theorem cell_spot {W : World} {a : Addr} {v : Value} (h : W.cell? a = some v) : a = ⟨a.block,a.off,none⟩:=by
 obtain ⟨b,o,s⟩:=a
 cases s with
 | none=>rfl
 | some s =>
  simp only [World.cell?,Option.isSome_some,if_true] at h
  split at h <;> cases h
theorem addr_add_ok {W : World} {a : Addr} {n : Nat} {v : Value} (h : W.cell? (a.add n) = some v) : a.add n = ⟨a.block,a.off + n,none⟩:=by
 unfold Addr.add at *
 split
 ·rename_i e
  subst e
  rw [if_pos rfl] at h
  exact cell_spot h
 ·rfl
theorem RepC.of_cells {W : World} {b : Nat} : ∀ {xs : List AV} {l : List Value} {o : Nat},RepL (gmA W) 2 xs l → (∀ j,j < l.length → W.cell? ⟨b,o + j,none⟩ = l[j]?) → RepC (gmA W) xs b o
 | [],_,_,_,_=>by simp only [RepC]
 | x :: xs,l,o,h,hc=>by
  simp only [RepL] at h
  obtain ⟨v,rest,rfl,hv,hr⟩:=h
  have h0:=hc 0 (by simp)
  simp only [Nat.add_zero,List.getElem?_cons_zero] at h0
  simp only [RepC]
  refine ⟨cell_lt h0,⟨v,h0,hv⟩,RepC.of_cells hr fun j hj=>?_⟩
  have:=hc (j + 1) (by simpa using hj)
  rw [show o + 1 + j = o + (j + 1) from by omega,this]
  rfl
section
variable {H : Type} (enc : TypeId × Value → H) (P : Program) (W : World)
def Opn {α : Type} (N : Nat) (t : TypeId) (cells : α → List AV) (size : α → Nat) (wf : α → Prop) : Prop :=
 ∀ (fuel : Nat) (cs : List Value) (x : DataW H × List MemPlace),fuel ≤ N → DataW.trod enc P W 0 (fun _=>true) true fuel t cs = some x → ∃ a : α,RepL (gmA W) 2 (cells a) cs ∧ size a ≤ dbulk x.1 ∧ wf a
def OpnF {α : Type} (N : Nat) (fs : List (Nat × TypeId)) (o e : Nat) (cells : α → List AV) (size : α → Nat) (wf : α → Prop) : Prop :=
 ∀ (fuel : Nat) (cs : List Value) (xs : List (DataW H × List MemPlace)),fuel ≤ N → xs.length = fs.length → cs.length = e →
  (∀ (i : Nat) (f : Nat × TypeId),fs[i]? = some f → DataW.trod enc P W 0 (fun _=>true) true fuel f.2 ((cs.drop f.1).take (P.cellsOf f.2)) = xs[i]?) → ∃ a : α,RepL (gmA W) 2 (cells a) (cs.drop o) ∧ size a ≤ dbulks (xs.map (·.1)) ∧ wf a
end
section
variable {H : Type} {enc : TypeId × Value → H} {P : Program} {W : World} {N : Nat} {t e : TypeId}
theorem Opn.mono {α : Type} {cells : α → List AV} {size : α → Nat} {wf : α → Prop} {N' : Nat} (h : Opn enc P W N t cells size wf) (hN : N' ≤ N) : Opn enc P W N' t cells size wf :=
 fun fuel cs x hf hx=>h fuel cs x (by omega) hx
theorem Opn.as {α β : Type} {cells : α → List AV} {size : α → Nat} {wf : α → Prop} (f : α → β) {cells' : β → List AV} {size' : β → Nat} {wf' : β → Prop} (h : Opn enc P W N t cells size wf)
  (hc : ∀ a,cells' (f a) = cells a) (hs : ∀ a,size' (f a) ≤ size a) (hw : ∀ a,wf a → wf' (f a)) : Opn enc P W N t cells' size' wf':=by
 intro fuel cs x hf hx
 obtain ⟨a,h1,h2,h3⟩:=h fuel cs x hf hx
 exact ⟨f a,by rw [hc]; exact h1,Nat.le_trans (hs a) h2,hw a h3⟩
theorem Opn.int {k : IntKind} (ht : P.underlying t = some (.int k)) : Opn enc P W N t (fun n : Int=>[.int k n]) (fun _=>1) (fun n=>(Lit.int k n).wf = true):=by
 intro fuel cs x _ hx
 obtain ⟨n,rfl,rfl,hw⟩:=DataW.trod_int ht hx
 exact ⟨n,repl_cons (rep_int n) repl_nil,by simp [dbulk],hw⟩
theorem Opn.bool (ht : P.underlying t = some .bool) : Opn enc P W N t (fun b : Bool=>[.bool b]) (fun _=>1) (fun _=>True):=by
 intro fuel cs x _ hx
 obtain ⟨n,rfl,rfl⟩:=DataW.trod_bool ht hx
 exact ⟨n,repl_cons (rep_bool n) repl_nil,by simp [dbulk],trivial⟩
theorem Opn.str (ht : P.underlying t = some .string) : Opn enc P W N t (fun s : List UInt8=>[.str s]) (fun s=>s.length + 1) (fun _=>True):=by
 intro fuel cs x _ hx
 obtain ⟨s,rfl,rfl,_⟩:=DataW.trod_string ht hx
 exact ⟨s.data.toList,repl_cons (rep_str s) repl_nil,by simp [dbulk],trivial⟩
theorem cells_of {a : Addr} {n : Nat} {l : List Value} (h : W.cells? 0 a n = some l) : l.length = n ∧ ∀ j,j < n → W.cell? (a.add j) = l[j]?:=by
 simp only [World.cells?,Nat.zero_le,if_true] at h
 exact ⟨by simpa using mapM_some_length h,fun j hj=>mapM_some_get h j j (by simp [hj])⟩
theorem Opn.slice {α : Type} {cells : α → List AV} {size : α → Nat} {wf : α → Prop} (ht : P.underlying t = some (.slice e)) (hc : 0 < P.cellsOf e) (he : Opn enc P W N e cells size wf) :
  Opn enc P W (N + 1) t (fun l : List α=>[.sl (l.map cells)]) (fun l=>(l.map size).sum + 1) (fun l=>∀ a ∈ l,wf a):=by
 intro fuel cs x hf hx
 rcases DataW.trod_slice ht hx with ⟨rfl,rfl⟩ | ⟨a,len,cap,elems,rest,n,rfl,rfl,rfl,_,hle,_,hlen,hel,_,_⟩
 ·exact ⟨[],repl_cons (by simp only [Rep,List.map_nil]; exact .inl ⟨trivial,_,_,rfl⟩) repl_nil,by simp [dbulk],by simp⟩
 ·have key : ∀ (es : List (DataW H × List MemPlace)) (o : Nat),(∀ i,i < es.length → (W.cells? 0 (a.add ((o + i) * P.cellsOf e)) (P.cellsOf e)).bind (DataW.trod enc P W 0 (fun _=>true) true n e) = es[i]?) →
    ∃ l : List α,l.length = es.length ∧ RepE (gmA W) (l.map cells) a.block (a.off + o * P.cellsOf e) (P.cellsOf e) ∧ (l.map size).sum ≤ dbulks (es.map (·.1)) ∧ ∀ b ∈ l,wf b:=by
   intro es
   induction es with
   | nil=>intro o _; exact ⟨[],rfl,by simp only [List.map_nil,RepE],by simp,by simp⟩
   | cons y es ih =>
    intro o hy
    obtain ⟨l,hl,hr,hs,hw⟩:=ih (o + 1) (fun i hi=>by
     have:=hy (i + 1) (by simpa using hi)
     rw [show o + 1 + i = o + (i + 1) from by omega,this]; rfl)
    have h0:=hy 0 (by simp)
    simp only [Nat.add_zero,List.getElem?_cons_zero,Option.bind_eq_some_iff] at h0
    obtain ⟨vs,hv,hy0⟩:=h0
    obtain ⟨b,hb1,hb2,hb3⟩:=he n vs y (by omega) hy0
    obtain ⟨hvl,hvc⟩:=cells_of hv
    have hbl:=RepL.length hb1
    refine ⟨b :: l,by simp [hl],?_,?_,?_⟩
    ·simp only [List.map_cons,RepE]
     have h1 : ∀ j,j < P.cellsOf e → W.cell? ⟨a.block,a.off + o * P.cellsOf e + j,none⟩ = vs[j]?:=by
      intro j hj
      have h2:=hvc j hj
      rw [← h2]
      have hj' : j < vs.length:=by omega
      rw [List.getElem?_eq_getElem hj'] at h2
      have h3 : W.cell? (a.add (o * P.cellsOf e)) = vs[0]?:=by
       have:=hvc 0 hc
       simpa [Addr.add] using this
      rw [List.getElem?_eq_getElem (by omega)] at h3
      have h4:=addr_add_ok h3
      have h5:=addr_add_ok h2
      rw [h5,h4]
     refine ⟨by omega,RepC.of_cells hb1 (fun j hj=>h1 j (by omega)),?_⟩
     have : a.off + (o + 1) * P.cellsOf e = a.off + o * P.cellsOf e + P.cellsOf e:=by rw [Nat.succ_mul]; omega
     rw [← this]
     exact hr
    ·simp only [List.map_cons,List.sum_cons,dbulks]
     omega
    ·intro c hcm
     rcases List.mem_cons.1 hcm with rfl | hcm
     ·exact hb3
     ·exact hw c hcm
  obtain ⟨l,hl,hr,hs,hw⟩:=key elems 0 (fun i hi=>by rw [Nat.zero_add]; exact hel i (by omega))
  refine ⟨l,repl_cons ?_ repl_nil,?_,hw⟩
  ·simp only [Rep]
   by_cases h0 : len = 0
   ·left
    have : l = []:=List.length_eq_zero_iff.1 (by omega)
    subst this
    exact ⟨rfl,a,cap,by rw [h0]⟩
   ·right
    have h1:=hel 0 (by omega)
    rw [List.getElem?_eq_getElem (by omega)] at h1
    simp only [Nat.zero_mul,Option.bind_eq_some_iff] at h1
    obtain ⟨vs,hv,_⟩:=h1
    obtain ⟨hvl,hvc⟩:=cells_of hv
    have h2:=hvc 0 hc
    rw [List.getElem?_eq_getElem (by omega)] at h2
    have h3 : a.add 0 = a:=by simp [Addr.add]
    simp only [h3] at h2
    have h4:=cell_spot h2
    refine ⟨a.block,a.off,cap,P.cellsOf e,?_,by simp only [List.length_map]; omega,?_⟩
    ·rw [← h4]; simp only [List.length_map]; rw [hl,hlen]
    ·simpa using hr
  ·simp only [dbulk]
   omega
theorem OpnF.nil {o : Nat} : OpnF enc P W N [] o o (fun _ : Unit=>[]) (fun _=>0) (fun _=>True):=by
 intro fuel cs xs _ _ hl _
 exact ⟨(),by rw [List.drop_eq_nil_of_le (by omega)]; exact repl_nil,Nat.zero_le _,trivial⟩
theorem OpnF.cons {α β : Type} {ca : α → List AV} {sa : α → Nat} {wa : α → Prop} {cb : β → List AV} {sb : β → Nat} {wb : β → Prop} {o c z : Nat} {fs : List (Nat × TypeId)} (h : Opn enc P W N t ca sa wa) (hc : P.cellsOf t = c) (hr : OpnF enc P W N fs (o + c) z cb sb wb) :
  OpnF enc P W N ((o,t) :: fs) o z (fun p : α × β=>ca p.1 ++ cb p.2) (fun p=>sa p.1 + sb p.2) (fun p=>wa p.1 ∧ wb p.2):=by
 intro fuel cs xs hf hl hcl hx
 cases xs with
 | nil=>simp at hl
 | cons x xs =>
  have h0:=hx 0 (o,t) rfl
  simp only [List.getElem?_cons_zero] at h0
  obtain ⟨a,a1,a2,a3⟩:=h fuel _ x hf h0
  obtain ⟨b,b1,b2,b3⟩:=hr fuel cs xs hf (by simpa using hl) hcl (fun i f hi=>by simpa using hx (i + 1) f (by simpa using hi))
  refine ⟨(a,b),?_,by simp only [List.map_cons,dbulks]; omega,a3,b3⟩
  have:=RepL.append a1 b1
  rw [hc] at this
  have e : (cs.drop o).take c ++ cs.drop (o + c) = cs.drop o:=by rw [← List.drop_drop,List.take_append_drop]
  rwa [e] at this
theorem Opn.struct {α : Type} {fs : Array Field} {l : List (Nat × TypeId)} {z : Nat} {cells : α → List AV} {size : α → Nat} {wf : α → Prop} (ht : P.underlying t = some (.struct fs)) (hl : fs.toList.map (fun f=>(f.offset,f.type)) = l) (hz : P.cellsOf t = z) (h : OpnF enc P W N l 0 z cells size wf) :
  Opn enc P W (N + 1) t cells (fun a=>size a + 1) wf:=by
 intro fuel cs x hf hx
 obtain ⟨xs,n,rfl,rfl,hcl,hxl,hxs⟩:=DataW.trod_struct ht hx
 obtain ⟨a,a1,a2,a3⟩:=h n cs xs (by omega) (by rw [hxl,← hl]; simp) (by omega) (fun i f hi=>by
  rw [← hl,List.getElem?_map,Option.map_eq_some_iff] at hi
  obtain ⟨g,hg,rfl⟩:=hi
  exact hxs i g (by simpa using hg))
 refine ⟨a,by simpa using a1,?_,a3⟩
 simp only [dbulk]
 omega
theorem Opn.zero {α : Type} {cells : α → List AV} {size : α → Nat} {wf : α → Prop} : Opn enc P W 0 t cells size wf:=by
 intro fuel cs x hf hx
 obtain rfl : fuel = 0:=by omega
 simp [DataW.trod] at hx
end
/-! objects -/
mutual
def Pob.tot : Pob → Nat
 | .mk _ _ _ s ks l=>s.length + (ks.map fun k=>k.length + 1).sum + tots l + 7
def tots : List Pob → Nat
 | []=>0
 | o :: l=>o.tot + tots l
end
def inI64 (n : Int) : Prop:=-9223372036854775808 ≤ n ∧ n ≤ 9223372036854775807
mutual
def Pob.wf : Pob → Prop
 | .mk k n g _ _ l=>inI64 k ∧ inI64 n ∧ inI64 g ∧ wfs l
def wfs : List Pob → Prop
 | []=>True
 | o :: l=>o.wf ∧ wfs l
end
theorem tots_map (l : List Pob) : (l.map Pob.tot).sum = tots l:=by
 induction l with
 | nil=>simp [tots]
 | cons o l ih=>simp only [List.map_cons,List.sum_cons,tots,ih]
theorem wfs_of {l : List Pob} (h : ∀ o ∈ l,o.wf) : wfs l:=by
 induction l with
 | nil=>simp only [wfs]
 | cons o l ih=>simp only [wfs]; exact ⟨h o (by simp),ih fun x hx=>h x (by simp [hx])⟩
theorem wfs_get {l : List Pob} (h : wfs l) {i : Nat} (hi : i < l.length) : (l.getD i Pob.null).wf:=by
 induction l generalizing i with
 | nil=>simp at hi
 | cons o l ih =>
  simp only [wfs] at h
  cases i with
  | zero=>simpa using h.1
  | succ i=>simpa using ih h.2 (by simpa using hi)
theorem Pob.wf_eq (o : Pob) : o.wf = (inI64 o.kind ∧ inI64 o.num ∧ inI64 o.gen ∧ wfs o.kids):=by cases o; simp only [Pob.wf,Pob.kind,Pob.num,Pob.gen,Pob.kids]
theorem keys_sum (ks : List (List UInt8)) : ks.length ≤ (ks.map fun k=>k.length + 1).sum:=by
 induction ks with
 | nil=>simp
 | cons k ks ih=>simp only [List.map_cons,List.sum_cons,List.length_cons]; omega
mutual
theorem Pob.bulk_tot : ∀ o : Pob,o.bulk + 1 ≤ o.tot
 | .mk _ _ _ s ks l=>by
  simp only [Pob.bulk,Pob.tot]
  have:=bulks_tots l
  have:=keys_sum ks
  omega
theorem bulks_tots : ∀ l : List Pob,l.length + bulks l ≤ tots l
 | []=>by simp [bulks,tots]
 | o :: l=>by
  simp only [bulks,tots,List.length_cons]
  have:=Pob.bulk_tot o
  have:=bulks_tots l
  omega
end
structure ObjT (P : Program) (tO tI tL tS tKs tOs : TypeId) : Prop where
 o : ∃ fs,P.underlying tO = some (.struct fs) ∧ fs.toList.map (fun f=>(f.offset,f.type)) = [(0,tI),(1,tL),(2,tI),(3,tS),(4,tKs),(5,tOs)]
 i : P.underlying tI = some (.int .i64)
 l : P.underlying tL = some (.int .i64)
 s : P.underlying tS = some .string
 ks : P.underlying tKs = some (.slice tS)
 os : P.underlying tOs = some (.slice tO)
 c : P.cellsOf tO = 6 ∧ P.cellsOf tI = 1 ∧ P.cellsOf tL = 1 ∧ P.cellsOf tS = 1 ∧ P.cellsOf tKs = 1 ∧ P.cellsOf tOs = 1
section
variable {H : Type} {enc : TypeId × Value → H} {P : Program} {W : World} {tO tI tL tS tKs tOs : TypeId}
theorem Opn.strs (T : ObjT P tO tI tL tS tKs tOs) (N : Nat) : Opn enc P W N tKs (fun l : List (List UInt8)=>[.sl (strsAV l)]) (fun l=>(l.map fun k=>k.length + 1).sum + 1) (fun _=>True):=by
 cases N with
 | zero=>exact Opn.zero
 | succ N =>
  refine Opn.as id (Opn.slice T.ks (by rw [T.c.2.2.2.1]; decide) (Opn.str (N:=N) T.s)) (fun a=>?_) (fun a=>Nat.le_refl _) (fun _ _=>trivial)
  simp [strsAV]
theorem Opn.obj (T : ObjT P tO tI tL tS tKs tOs) (N : Nat) : Opn enc P W N tO Pob.cells Pob.tot Pob.wf:=by
 induction N using Nat.strongRecOn with
 | ind N IH =>
  cases N with
  | zero=>exact Opn.zero
  | succ N =>
   have hos : Opn enc P W N tOs (fun l : List Pob=>[.sl (objsAV l)]) (fun l=>tots l + 1) wfs:=by
    cases N with
    | zero=>exact Opn.zero
    | succ N =>
     refine Opn.as id (Opn.slice T.os (by rw [T.c.1]; decide) (IH N (by omega))) (fun a=>?_) (fun a=>?_) (fun a h=>wfs_of h)
     ·simp [objsAV_map]
     ·rw [tots_map]; exact Nat.le_refl _
   obtain ⟨fs,h1,h2⟩:=T.o
   obtain ⟨c0,c1,c2,c3,c4,c5⟩:=T.c
   refine Opn.as (fun p : Int × Int × Int × List UInt8 × List (List UInt8) × List Pob × Unit=>Pob.mk p.1 p.2.1 p.2.2.1 p.2.2.2.1 p.2.2.2.2.1 p.2.2.2.2.2.1)
    (Opn.struct h1 h2 c0 (OpnF.cons (Opn.int T.i) c1 (OpnF.cons (Opn.int T.l) c2 (OpnF.cons (Opn.int T.i) c1 (OpnF.cons (Opn.str T.s) c3 (OpnF.cons (Opn.strs T N) c4 (OpnF.cons hos c5 OpnF.nil))))))) ?_ ?_ ?_
   ·intro a; simp [Pob.cells]
   ·intro a; simp only [Pob.tot]; omega
   ·intro a ⟨ha,hb,hc,_,_,hl,_⟩
    simp only [Pob.wf]
    exact ⟨wf_i64 ha,wf_i64 hb,wf_i64 hc,hl⟩
theorem Opn.objs (T : ObjT P tO tI tL tS tKs tOs) (N : Nat) : Opn enc P W N tOs (fun l : List Pob=>[.sl (objsAV l)]) (fun l=>tots l + 1) wfs:=by
 cases N with
 | zero=>exact Opn.zero
 | succ N =>
  refine Opn.as id (Opn.slice T.os (by rw [T.c.1]; decide) (Opn.obj T N)) (fun a=>?_) (fun a=>?_) (fun a h=>wfs_of h)
  ·simp [objsAV_map]
  ·rw [tots_map]; exact Nat.le_refl _
end
/-! arguments -/
section
variable {H : Type} {enc : TypeId × Value → H} {P : Program} {W : World} {t : TypeId} {b0 : Nat} {r : Reach} {v : Value} {d : DataW H} {ps : List MemPlace}
theorem Opn.agg {α : Type} {cells : α → List AV} {size : α → Nat} {wf : α → Prop} {fs : Array Field} (ht : P.underlying t = some (.struct fs)) (h : ∀ N,Opn enc P W N t cells size wf) (hval : Value.okWide P W r b0 t v) (hd : DataW.Trod enc P W 0 (fun _=>true) true t v d ps) :
  ∃ a,Rep (gmA W) 1 (.agg (cells a)) v ∧ size a ≤ dbulk d ∧ wf a:=by
 obtain ⟨cs,rfl,_⟩:=okWide_struct ht hval
 obtain ⟨fuel,hf⟩:=hd
 obtain ⟨a,h1,h2,h3⟩:=h fuel fuel _ _ (Nat.le_refl _) hf
 refine ⟨a,?_,h2,h3⟩
 simp only [Rep]
 exact ⟨cs,rfl,RepL.down (by decide) _ _ h1⟩
theorem Opn.sl {α : Type} {av : α → AV} {size : α → Nat} {wf : α → Prop} {e : TypeId} (ht : P.underlying t = some (.slice e)) (h : ∀ N,Opn enc P W N t (fun a=>[av a]) size wf) (hval : Value.okWide P W r b0 t v) (hd : DataW.Trod enc P W 0 (fun _=>true) true t v d ps) :
  ∃ a,Rep (gmA W) 1 (av a) v ∧ size a ≤ dbulk d ∧ wf a:=by
 obtain ⟨A,n,c,rfl⟩:=okWide_slice ht hval
 obtain ⟨fuel,hf⟩:=hd
 obtain ⟨a,h1,h2,h3⟩:=h fuel fuel _ _ (Nat.le_refl _) hf
 refine ⟨a,?_,h2,h3⟩
 simp only [RepL,Value.cells] at h1
 obtain ⟨u,rest,hu,hr,_⟩:=h1
 cases hu
 exact Rep.down (by decide) _ _ hr
end
end Aw

namespace Go.Proofs
open Go.Shelf
def Tryd.lays169_ren : Go.Shelf.Ren:=⟨fun | 169=>40 | n=>n,fun | 70=>50 | 9=>9 | 0=>0 | 72=>52 | 37=>29 | 127=>79 | 3=>3 | 5=>5 | n=>n,fun | n=>n⟩
theorem Tryd.lays169 : Go.Proofs.Lays.n169 Tryd.prog Tryd.lays169_ren:={
 mixed:=by kernel_rfl
 f169:=Tryd.func40.trans (congrArg some (by kernel_rfl))
 t0:=Tryd.underlying0
 a0:=Tryd.isAgg0
 z0:=Tryd.sizeOf0
 v0:=Tryd.zeroValue0
 t3:=Tryd.underlying3
 a3:=Tryd.isAgg3
 z3:=Tryd.sizeOf3
 v3:=Tryd.zeroValue3
 t9:=Tryd.underlying9
 a9:=Tryd.isAgg9
 z9:=Tryd.sizeOf9
 v9:=Tryd.zeroValue9
 t37:=Tryd.underlying29
 a37:=Tryd.isAgg29
 z37:=Tryd.sizeOf29
 v37:=Tryd.zeroValue29
 t70:=Tryd.underlying50
 a70:=Tryd.isAgg50
 z70:=Tryd.sizeOf50
 v70:=Tryd.zeroValue50
 t72:=Tryd.underlying52
 a72:=Tryd.isAgg52
 z72:=Tryd.sizeOf52
 v72:=Tryd.zeroValue52
 t127:=Tryd.underlying79
 a127:=Tryd.isAgg79
 z127:=Tryd.sizeOf79
 v127:=Tryd.zeroValue79 }
theorem Tryd.Builder_Extra_169 : Builder.Extra Tryd.prog Tryd.lays169_ren:={
 sizeBuilder:=by kernel_rfl
 liesBuilder:=by kernel_rfl
 t5:=Tryd.underlying5
 a5:=Tryd.isAgg5
 z5:=Tryd.sizeOf5
 v5:=Tryd.zeroValue5
 infoByte:=by kernel_rfl
 cellsByte:=by kernel_rfl
 sizeByte:=by kernel_rfl
 neB5:=by decide }
def Tryd.lays137_ren : Go.Shelf.Ren:=⟨fun | 137=>46 | 217=>53 | 266=>59 | n=>n,fun | 9=>9 | 5=>5 | 3=>3 | n=>n,fun | n=>n⟩
theorem Tryd.lays137 : Go.Proofs.Lays.n137 Tryd.prog Tryd.lays137_ren:={
 mixed:=by kernel_rfl
 f137:=Tryd.func46.trans (congrArg some (by kernel_rfl))
 f217:=Tryd.func53.trans (congrArg some (by kernel_rfl))
 f266:=Tryd.func59.trans (congrArg some (by kernel_rfl))
 t3:=Tryd.underlying3
 a3:=Tryd.isAgg3
 z3:=Tryd.sizeOf3
 v3:=Tryd.zeroValue3
 t5:=Tryd.underlying5
 a5:=Tryd.isAgg5
 z5:=Tryd.sizeOf5
 v5:=Tryd.zeroValue5
 t9:=Tryd.underlying9
 a9:=Tryd.isAgg9
 z9:=Tryd.sizeOf9
 v9:=Tryd.zeroValue9 }
open Go.RowKit in
theorem Tryd.strings_IndexByte (s : ByteArray) (c : Int) (w : World) :
  Calls Tryd.prog 46 #[.string s,.int .u8 c] w fun e w'=>e = .returned (.int .i64 (Lib.indexByte s.data.toList c.toNat.toUInt8)) ∧ w' = w:=Any.strings_IndexByte Tryd.lays137 s c w
def Tryd.lays105_ren : Go.Shelf.Ren:=⟨fun | 105=>35 | 212=>47 | 99=>48 | 165=>49 | 166=>43 | 170=>50 | 169=>40 | 263=>54 | 264=>55 | 206=>56 | 240=>52 | 241=>57 | 276=>58 | 277=>60 | n=>n,fun | 9=>9 | 3=>3 | 4=>4 | 20=>20 | 0=>0 | 46=>60 | 109=>74 | 5=>5 | 72=>52 | 76=>66 | 51=>80 | 146=>81 | 53=>46 | 148=>83 | 70=>50 | 37=>29 | 75=>58 | 127=>79 | 164=>85 | 80=>63 | n=>n,fun | n=>n⟩
theorem Tryd.lays105 : Go.Proofs.Lays.n105 Tryd.prog Tryd.lays105_ren:={
 mixed:=by kernel_rfl
 f99:=Tryd.func48.trans (congrArg some (by kernel_rfl))
 f105:=Tryd.func35.trans (congrArg some (by kernel_rfl))
 f165:=Tryd.func49.trans (congrArg some (by kernel_rfl))
 f166:=Tryd.func43.trans (congrArg some (by kernel_rfl))
 f169:=Tryd.func40.trans (congrArg some (by kernel_rfl))
 f170:=Tryd.func50.trans (congrArg some (by kernel_rfl))
 f206:=Tryd.func56.trans (congrArg some (by kernel_rfl))
 f212:=Tryd.func47.trans (congrArg some (by kernel_rfl))
 f240:=Tryd.func52.trans (congrArg some (by kernel_rfl))
 f241:=Tryd.func57.trans (congrArg some (by kernel_rfl))
 f263:=Tryd.func54.trans (congrArg some (by kernel_rfl))
 f264:=Tryd.func55.trans (congrArg some (by kernel_rfl))
 f276:=Tryd.func58.trans (congrArg some (by kernel_rfl))
 f277:=Tryd.func60.trans (congrArg some (by kernel_rfl))
 t0:=Tryd.underlying0
 a0:=Tryd.isAgg0
 z0:=Tryd.sizeOf0
 v0:=Tryd.zeroValue0
 t3:=Tryd.underlying3
 a3:=Tryd.isAgg3
 z3:=Tryd.sizeOf3
 v3:=Tryd.zeroValue3
 t4:=Tryd.underlying4
 a4:=Tryd.isAgg4
 z4:=Tryd.sizeOf4
 v4:=Tryd.zeroValue4
 t5:=Tryd.underlying5
 a5:=Tryd.isAgg5
 z5:=Tryd.sizeOf5
 v5:=Tryd.zeroValue5
 t9:=Tryd.underlying9
 a9:=Tryd.isAgg9
 z9:=Tryd.sizeOf9
 v9:=Tryd.zeroValue9
 t20:=Tryd.underlying20
 a20:=Tryd.isAgg20
 z20:=Tryd.sizeOf20
 v20:=Tryd.zeroValue20
 t37:=Tryd.underlying29
 a37:=Tryd.isAgg29
 z37:=Tryd.sizeOf29
 v37:=Tryd.zeroValue29
 t46:=Tryd.underlying60
 a46:=Tryd.isAgg60
 z46:=Tryd.sizeOf60
 v46:=Tryd.zeroValue60
 t51:=Tryd.underlying80
 a51:=Tryd.isAgg80
 z51:=Tryd.sizeOf80
 v51:=Tryd.zeroValue80
 t53:=Tryd.underlying46
 a53:=Tryd.isAgg46
 z53:=Tryd.sizeOf46
 v53:=Tryd.zeroValue46
 t70:=Tryd.underlying50
 a70:=Tryd.isAgg50
 z70:=Tryd.sizeOf50
 v70:=Tryd.zeroValue50
 t72:=Tryd.underlying52
 a72:=Tryd.isAgg52
 z72:=Tryd.sizeOf52
 v72:=Tryd.zeroValue52
 t75:=Tryd.underlying58
 a75:=Tryd.isAgg58
 z75:=Tryd.sizeOf58
 v75:=Tryd.zeroValue58
 t76:=Tryd.underlying66
 a76:=Tryd.isAgg66
 z76:=Tryd.sizeOf66
 v76:=Tryd.zeroValue66
 t109:=Tryd.underlying74
 a109:=Tryd.isAgg74
 z109:=Tryd.sizeOf74
 v109:=Tryd.zeroValue74
 t127:=Tryd.underlying79
 a127:=Tryd.isAgg79
 z127:=Tryd.sizeOf79
 v127:=Tryd.zeroValue79
 t146:=Tryd.underlying81
 a146:=Tryd.isAgg81
 z146:=Tryd.sizeOf81
 v146:=Tryd.zeroValue81
 t148:=Tryd.underlying83
 a148:=Tryd.isAgg83
 z148:=Tryd.sizeOf83
 v148:=Tryd.zeroValue83
 t164:=Tryd.underlying85
 a164:=Tryd.isAgg85
 z164:=Tryd.sizeOf85
 v164:=Tryd.zeroValue85 }
theorem Tryd.Builder_Extra_105 : Builder.Extra Tryd.prog Tryd.lays105_ren:={
 sizeBuilder:=by kernel_rfl
 liesBuilder:=by kernel_rfl
 t5:=Tryd.underlying5
 a5:=Tryd.isAgg5
 z5:=Tryd.sizeOf5
 v5:=Tryd.zeroValue5
 infoByte:=by kernel_rfl
 cellsByte:=by kernel_rfl
 sizeByte:=by kernel_rfl
 neB5:=by decide }
open Go.RowKit Go.Lib in
theorem Tryd.strings_Repeat (s : ByteArray) (c : Nat) (w : World) (hc : c ≤ 9223372036854775807) (hlen : s.size * c ≤ 140737488355328) :
  Calls Tryd.prog 35 #[.string s,.int .i64 c] w fun e w'=>e = .returned (.string ⟨(Lib.repeatL s.data.toList c).toArray⟩) ∧ Below w.heap.size w w':=Any.strings_Repeat Tryd.lays105 Tryd.Builder_Extra_105 s c w hc hlen
end Go.Proofs

set_option linter.unusedVariables false
set_option linter.unusedSimpArgs false
namespace Go.Proofs
open Go Go.Shelf Go.RowKit
variable {P : Program} {ρ : Ren}
set_option maxHeartbeats 4000000 in
set_option maxRecDepth 100000 in
theorem Bld.String_some (L : Lays.n169 P ρ) (X : Builder.Extra P ρ) (b g cap : Nat) (p : Value) (cur : Array Value) (l : List UInt8) (w : World) (h0 : l ≠ []) (hbk : w.heap[b]? = some (.cells #[p,.slice (some ⟨g,0,none⟩) l.length cap] (ρ.t 72) (0,0)))
  (hg : w.heap[g]? = some (.cells cur (ρ.t 5) (0,0))) (hle : l.length ≤ cur.size) (hcap : l.length ≤ cap) (h63 : l.length ≤ 9223372036854775807) (hcell : ∀ j x,l[j]? = some x → w.cell? ⟨g,j,none⟩ = some (.int .u8 x.toNat)) :
  Calls P (ρ.f 169) #[.pointer (some ⟨b,0,none⟩)] w fun e w'=>e = .returned (.string ⟨l.toArray⟩) ∧ w' = w.drew.freeze ⟨g,0,none⟩ l.length:=by
 have hl0 : l.length ≠ 0:=by simpa using h0
 have c1 : w.drew.cell? ⟨b,1,none⟩ = some (.slice (some ⟨g,0,none⟩) l.length cap):=by
  have : w.drew.heap[b]? = some (.cells #[p,.slice (some ⟨g,0,none⟩) l.length cap] (ρ.t 72) (0,0)):=hbk
  rw [Lib.cell_of_heap this] <;> rfl
 have hSD : (Builtin.unsafeSliceData_ #[(ρ.t 37)] (ρ.t 127) #[.slice (some ⟨g,0,none⟩) l.length cap]).run P w.drew = .ok (.pointer (some ⟨g,0,none⟩)) w.drew :=
  Lib.run_unsafeSliceData_row _ _ _ _ _ _ (by omega)
 have hUS : (Builtin.unsafeString_ #[(ρ.t 127),(ρ.t 3)] (ρ.t 9) #[.pointer (some ⟨g,0,none⟩),.int .i64 l.length]).run P w.drew = .ok (.string ⟨l.toArray⟩) (w.drew.freeze ⟨g,0,none⟩ l.length):=by
  refine Lib.run_unsafeString_row w.drew (ρ.t 127) (ρ.t 3) (ρ.t 9) (ρ.t 5) L.t127 X.cellsByte g cur.size (by have hg' : w.drew.heap[g]? = some (.cells cur (ρ.t 5) (0,0)):=hg; simp [World.shape?,hg']) l h0 hle h63 ?_
  intro j x hx
  have:=hcell j x hx
  rw [Aw.addr_add,Nat.zero_add]
  exact this
 clear hle hcap h63
 have mixed:=L.mixed
 have t72:=L.t72; have a72:=L.a72; have z72:=L.z72; have v72:=L.v72; have u72:=run_underlying L.t72
 have t70:=L.t70; have a70:=L.a70; have z70:=L.z70; have v70:=L.v70; have u70:=run_underlying L.t70
 have t37:=L.t37; have a37:=L.a37; have z37:=L.z37; have v37:=L.v37; have u37:=run_underlying L.t37
 have t127:=L.t127; have a127:=L.a127; have z127:=L.z127; have v127:=L.v127; have u127:=run_underlying L.t127
 have t3:=L.t3; have a3:=L.a3; have z3:=L.z3; have v3:=L.v3; have u3:=run_underlying L.t3
 have t9:=L.t9; have a9:=L.a9; have z9:=L.z9; have v9:=L.v9; have u9:=run_underlying L.t9
 have t5:=X.t5; have a5:=X.a5; have z5:=X.z5; have v5:=X.v5; have u5:=run_underlying X.t5
 go_enter L.f169,Body.n169_ntmps ρ
 go_wp2
 go_region_o
 all_goals (go_wp2; go_ret; exact ⟨rfl,rfl⟩)
set_option maxHeartbeats 4000000 in
set_option maxRecDepth 100000 in
theorem Bld.String_none (L : Lays.n169 P ρ) (X : Builder.Extra P ρ) (b cap : Nat) (q : Option Addr) (p : Value) (w : World) (hq : q = none ∧ cap = 0 ∨ (∃ g,q = some ⟨g,0,none⟩) ∧ cap ≠ 0) (hbk : w.heap[b]? = some (.cells #[p,.slice q 0 cap] (ρ.t 72) (0,0))) :
  Calls P (ρ.f 169) #[.pointer (some ⟨b,0,none⟩)] w fun e w'=>e = .returned (.string ⟨#[]⟩) ∧ w' = w.drew:=by
 have hUS:=Any.unsafeString_none L X
 have c1 : w.drew.cell? ⟨b,1,none⟩ = some (.slice q 0 cap):=by
  have : w.drew.heap[b]? = some (.cells #[p,.slice q 0 cap] (ρ.t 72) (0,0)):=hbk
  rw [Lib.cell_of_heap this] <;> rfl
 have hSD : ∃ a,(Builtin.unsafeSliceData_ #[(ρ.t 37)] (ρ.t 127) #[.slice q 0 cap]).run P w.drew = .ok (.pointer a) w.drew:=by
  rcases hq with ⟨rfl,rfl⟩ | ⟨⟨g,rfl⟩,hc⟩
  ·exact ⟨none,rfl⟩
  ·exact ⟨_,Lib.run_unsafeSliceData_row _ _ _ _ _ _ hc⟩
 obtain ⟨qa,hSD⟩:=hSD
 clear hq
 have mixed:=L.mixed
 have t72:=L.t72; have a72:=L.a72; have z72:=L.z72; have v72:=L.v72; have u72:=run_underlying L.t72
 have t70:=L.t70; have a70:=L.a70; have z70:=L.z70; have v70:=L.v70; have u70:=run_underlying L.t70
 have t37:=L.t37; have a37:=L.a37; have z37:=L.z37; have v37:=L.v37; have u37:=run_underlying L.t37
 have t127:=L.t127; have a127:=L.a127; have z127:=L.z127; have v127:=L.v127; have u127:=run_underlying L.t127
 have t3:=L.t3; have a3:=L.a3; have z3:=L.z3; have v3:=L.v3; have u3:=run_underlying L.t3
 have t9:=L.t9; have a9:=L.a9; have z9:=L.z9; have v9:=L.v9; have u9:=run_underlying L.t9
 have t5:=X.t5; have a5:=X.a5; have z5:=X.z5; have v5:=X.v5; have u5:=run_underlying X.t5
 go_enter L.f169,Body.n169_ntmps ρ
 go_wp2
 go_region_o
 all_goals (go_wp2; go_ret; exact ⟨rfl,rfl⟩)
end Go.Proofs
namespace Aw
open Go Go.Shelf Go.Proofs
variable {P : Program} {ρ : Ren}
theorem SimH.gone {m m' : Mem} {hp : List (Nat × ABlk)} {nx : Nat} (hH : SimH m hp nx) (hρ : m'.ρ = m.ρ) (hF : m'.F = m.F) (hPr : m'.Pr = m.Pr) (hs : m'.w.heap.size = m.w.heap.size) : SimH m' [] nx :=
 ⟨fun _ _ h=>by simp [get] at h,fun _ _ _ _ _ _ h=>by simp [get] at h,fun id h=>by rw [hρ]; exact hH.fresh id h,fun b o h=>by rw [hs]; rw [hF] at h; exact hH.Fold b o h,fun b h=>by rw [hs]; rw [hPr] at h; exact hH.Pold b h⟩
theorem FnH.bldString {gl : List (Nat × AV)} {p : AV} {l : List UInt8} (L : Lays.n169 P ρ) (X : Builder.Extra P ρ) (h63 : l.length ≤ 9223372036854775807) (hE : Aw.enters P (ρ.f 169)) :
  FnH P gl (ρ.f 169) [.ptr 0 0] [(0,.tc (ρ.t 72) [p,.row 1 0 l.length]),(1,.brow (ρ.t 5) l)] 2 fun r h n=>r = .ret (.str l) ∧ h = [] ∧ n = 2:=by
 refine ⟨hE,fun m vs hm hv=>?_⟩
 simp only [RepL,Rep] at hv
 obtain ⟨_,_,rfl,⟨_,ri,hρ,rfl⟩,rfl⟩:=hv
 obtain ⟨ri',hρ',hb⟩:=hm.h.blk 0 _ (by rfl)
 rw [hρ] at hρ'
 injection hρ' with hρ'
 subst hρ'
 obtain ⟨hn,hP,hF,c,hbk,hL,hX⟩:=hb
 simp only [RepL] at hL
 obtain ⟨v0,_,hc0,hv0,v1,_,rfl,hv1,rfl⟩:=hL
 have hcs : c = #[v0,v1]:=by
  apply Array.ext'
  simpa using hc0
 subst hcs
 simp only [Rep] at hv1
 obtain ⟨_,rj,hρ1,hrow⟩:=hv1
 obtain ⟨rj',hρ1',hb1,hx1⟩:=hm.h.blk 1 _ (by rfl)
 rw [hρ1] at hρ1'
 injection hρ1' with hρ1'
 subst hρ1'
 have hlen : (l.map fun b=>[AV.int .u8 (b.toNat : Int)]).length = l.length:=List.length_map ..
 have hnil : ∀ (cap : Nat) (q : Option Addr),l = [] → v1 = .slice q 0 cap → (q = none ∧ cap = 0 ∨ (∃ g,q = some ⟨g,0,none⟩) ∧ cap ≠ 0) →
   Calls P (ρ.f 169) #[.pointer (some ⟨ri.b,0,none⟩)] m.w fun e w'=>∃ m' r hp' nx',m'.w = w' ∧ m.le m' ∧ SimH m' hp' nx' ∧ endOkH m' r e ∧ (r = .ret (.str l) ∧ hp' = [] ∧ nx' = 2):=by
  rintro cap q rfl rfl hq
  refine (Bld.String_none L X ri.b cap q v0 m.w hq hbk).mono ?_
  rintro e w' ⟨rfl,rfl⟩
  exact ⟨{ m with w:=m.w.drew },.ret (.str []),[],2,rfl,⟨rfl,rfl,rfl,Nat.le_refl _,rfl,fun _ _=>rfl,fun _ _ h=>h,fun _ _ _=>rfl,fun _ _ _ h=>h,rfl,fun _ _ _ h=>h⟩,hm.h.gone rfl rfl rfl rfl,
   ⟨_,rfl,by simp only [Rep]⟩,rfl,rfl,rfl⟩
 rcases hrow with ⟨hn1,_,hl0,hsv⟩ | ⟨hn1,hcap,hlt,hsv⟩ | ⟨hn1,h0,_,ad,hsv⟩
 ·exact hnil 0 none (List.eq_nil_of_length_eq_zero hl0) hsv (.inl ⟨rfl,rfl⟩)
 ·obtain ⟨⟨ho0,hc1⟩,cur,hbk1⟩:=hx1 hn1
  rw [ho0,Nat.zero_mul,Nat.add_zero,Nat.sub_zero] at hsv
  by_cases hl : l = []
  ·rw [hl] at hsv
   exact hnil rj.cap (some ⟨rj.b,0,none⟩) hl hsv (.inr ⟨⟨_,rfl⟩,by omega⟩)
  ·rcases hb1 with ⟨h,_⟩ | ⟨_,hP1,⟨_,hsz⟩,_,⟨c2,T2,lo2,hi2,hbk2,_,hcs⟩,hif⟩
   ·rw [hn1] at h; cases h
   rw [hbk1] at hbk2
   injection hbk2 with hbk2
   injection hbk2 with e1 e2 e3
   subst e1
   rw [if_pos rfl] at hif
   obtain ⟨hY,hnF⟩:=hif
   subst hsv
   have hcells : ∀ j x,l[j]? = some x → m.w.cell? ⟨rj.b,j,none⟩ = some (.int .u8 x.toNat):=by
    intro j x hj
    have hjl : j < (l.map fun b=>[AV.int .u8 (b.toNat : Int)]).length:=by
     rw [hlen]
     rcases Nat.lt_or_ge j l.length with h | h
     ·exact h
     ·rw [List.getElem?_eq_none h] at hj; cases hj
    have hjx : l[j]'(by rw [← hlen]; exact hjl) = x:=by
     rw [List.getElem?_eq_getElem (by rw [← hlen]; exact hjl)] at hj
     exact Option.some.inj hj
    obtain ⟨_,h2⟩:=hY.at j hjl
    rw [List.getElem_map,hjx,ho0,hsz,Nat.mul_one,Nat.zero_add] at h2
    simp only [RepX,Rep] at h2
    obtain ⟨⟨v,hv,rfl⟩,_⟩:=h2
    exact hv
   refine (Bld.String_some L X ri.b rj.b rj.cap v0 cur l m.w hl hbk hbk1 (by rw [ho0,hsz] at hcs; omega) (by omega) h63 hcells).mono ?_
   rintro e w' ⟨rfl,rfl⟩
   have hlz : l.length ≠ 0:=by simpa using hl
   have hheap : ∀ b,b ≠ rj.b → (m.w.drew.freeze ⟨rj.b,0,none⟩ l.length).heap[b]? = m.w.heap[b]?:=by
    intro b hb
    simp only [World.freeze,if_neg hlz,Array.getElem?_modify,if_neg (Ne.symm hb)]
    rfl
   have hbw : (m.w.drew.freeze ⟨rj.b,0,none⟩ l.length).heap.size = m.w.heap.size:=by
    simp only [World.freeze,if_neg hlz,Array.size_modify]
    rfl
   have hos : (m.w.drew.freeze ⟨rj.b,0,none⟩ l.length).os = m.w.os ∧ (m.w.drew.freeze ⟨rj.b,0,none⟩ l.length).tape = m.w.tape ∧ (m.w.drew.freeze ⟨rj.b,0,none⟩ l.length).output = m.w.output:=by
    simp only [World.freeze,if_neg hlz]
    exact ⟨rfl,rfl,rfl⟩
   refine ⟨{ m with w:=m.w.drew.freeze ⟨rj.b,0,none⟩ l.length },.ret (.str l),[],2,rfl,⟨hos.1,hos.2.1,hos.2.2,Nat.le_of_eq hbw.symm,rfl,fun b hb=>hheap b (fun q=>hP1 (q ▸ hb)),fun _ _ h=>h,fun b o hf=>?_,fun _ _ _ h=>h,rfl,fun _ _ _ h=>h⟩,
    hm.h.gone rfl rfl rfl hbw,⟨_,rfl,by simp only [Rep]⟩,rfl,rfl,rfl⟩
   have hne : b ≠ rj.b:=by
    rintro rfl
    exact hnF o (by omega) hf
   exact Aw.cell?_of_block (hheap b hne)
 ·obtain ⟨⟨_,hc1⟩,_⟩:=hx1 hn1
  omega
theorem FnH.bldCheck {gl : List (Nat × AV)} {wr : Bool} {x : AV} {blk : ABlk} (L : Lays.n240 P ρ) (X : Builder.X72 P ρ) (hE : Aw.enters P (ρ.f 240)) :
  FnH P gl (ρ.f 240) [.ptr 0 0] [(0,.tc (ρ.t 72) [bldP wr 0,x]),(1,blk)] 2 fun r h n=>r = .ret (.tup []) ∧ h = [(0,.tc (ρ.t 72) [.ptr 0 0,x]),(1,blk)] ∧ n = 2 :=
 FnH.copyCheck hE (fun b w h=>Any.Builder_copyCheck_used L X b w h) (fun b w h1 h2 h3=>Any.Builder_copyCheck_fresh L X b w h1 h2 h3)
end Aw

namespace Aw
open Go
abbrev Byt:=List UInt8
def whiteC (c : UInt8) : Bool:=c == 0 || c == 9 || c == 10 || c == 12 || c == 13 || c == 32
def digC (c : UInt8) : Option Nat :=
 if 48 ≤ c ∧ c ≤ 57 then some (c.toNat - 48) else if 65 ≤ c ∧ c ≤ 70 then some (c.toNat - 55) else if 97 ≤ c ∧ c ≤ 102 then some (c.toNat - 87) else none
def hexC (n : Nat) : UInt8:=if n < 10 then UInt8.ofNat (48 + n) else UInt8.ofNat (55 + n)
def hexB (s : Byt) : Byt:=s.flatMap fun c=>[hexC (c.toNat / 16),hexC (c.toNat % 16)]
def hexE (s : Byt) : Byt:=hexB s ++ [62]
inductive AErr | ok | arg | form | ending | long
deriving DecidableEq,Repr
def unhexS (most : Nat) : Byt → Option Nat → Byt → Byt × AErr
 | [],_,_=>([],.ending)
 | c :: s,half,out =>
  if whiteC c = true then unhexS most s half out
  else if c = 62 then (match half with
   | none=>(out,.ok)
   | some h=>if out.length + 1 ≤ most then (out ++ [UInt8.ofNat (16 * h)],.ok) else ([],.long))
  else match digC c with
   | none=>([],.form)
   | some d=>match half with
    | none=>unhexS most s (some d) out
    | some h=>if out.length + 1 ≤ most then unhexS most s none (out ++ [UInt8.ofNat (16 * h + d)]) else ([],.long)
def unhexD (s : Byt) (most : Int) : Byt × AErr:=if most < 0 then ([],.arg) else unhexS (min most.toNat 1048576) s none []
theorem u8_all {p : UInt8 → Prop} (h : ∀ n : Fin 256,p (UInt8.ofNat n.1)) (c : UInt8) : p c:=by
 have:=h ⟨c.toNat,c.toNat_lt⟩
 simpa using this
theorem hexC_ok (c : UInt8) : whiteC (hexC (c.toNat / 16)) = false ∧ hexC (c.toNat / 16) ≠ 62 ∧ digC (hexC (c.toNat / 16)) = some (c.toNat / 16) ∧
  whiteC (hexC (c.toNat % 16)) = false ∧ hexC (c.toNat % 16) ≠ 62 ∧ digC (hexC (c.toNat % 16)) = some (c.toNat % 16) ∧ UInt8.ofNat (16 * (c.toNat / 16) + c.toNat % 16) = c :=
 u8_all (p:=fun c=>whiteC (hexC (c.toNat / 16)) = false ∧ hexC (c.toNat / 16) ≠ 62 ∧ digC (hexC (c.toNat / 16)) = some (c.toNat / 16) ∧
  whiteC (hexC (c.toNat % 16)) = false ∧ hexC (c.toNat % 16) ≠ 62 ∧ digC (hexC (c.toNat % 16)) = some (c.toNat % 16) ∧ UInt8.ofNat (16 * (c.toNat / 16) + c.toNat % 16) = c) (by decide +kernel) c
theorem unhexS_white {most : Nat} {c : UInt8} {s : Byt} {half : Option Nat} {out : Byt} (h : whiteC c = true) : unhexS most (c :: s) half out = unhexS most s half out:=by simp [unhexS,h]
theorem unhexS_dig0 {most : Nat} {c : UInt8} {s : Byt} {out : Byt} {d : Nat} (h1 : whiteC c = false) (h2 : c ≠ 62) (h3 : digC c = some d) : unhexS most (c :: s) none out = unhexS most s (some d) out:=by simp [unhexS,h1,h2,h3]
theorem unhexS_dig1 {most : Nat} {c : UInt8} {s : Byt} {out : Byt} {d h : Nat} (h1 : whiteC c = false) (h2 : c ≠ 62) (h3 : digC c = some d) : unhexS most (c :: s) (some h) out = if out.length + 1 ≤ most then unhexS most s none (out ++ [UInt8.ofNat (16 * h + d)]) else ([],.long):=by simp [unhexS,h1,h2,h3]
theorem hexB_cons (c : UInt8) (s : Byt) : hexB (c :: s) = hexC (c.toNat / 16) :: hexC (c.toNat % 16) :: hexB s:=rfl
theorem unhex_run (most : Nat) (tail : Byt) : ∀ (s out : Byt),out.length + s.length ≤ most → unhexS most (hexB s ++ tail) none out = unhexS most tail none (out ++ s)
 | [],out,_=>by simp [hexB]
 | c :: s,out,h=>by
  obtain ⟨a1,a2,a3,b1,b2,b3,e⟩:=hexC_ok c
  simp only [List.length_cons] at h
  rw [hexB_cons,List.cons_append,List.cons_append,unhexS_dig0 a1 a2 a3,unhexS_dig1 b1 b2 b3,if_pos (by omega),e,unhex_run most tail s (out ++ [c]) (by simp; omega)]
  simp
theorem unhex_stop (most : Nat) (tail out : Byt) : unhexS most (62 :: tail) none out = (out,.ok):=by simp [unhexS,whiteC]
theorem unhex_back (s behind : Byt) (h : s.length ≤ 1048576) : unhexD (hexE s ++ behind) s.length = (s,.ok):=by
 unfold unhexD hexE
 rw [if_neg (by omega),List.append_assoc,unhex_run _ _ s [] (by simp; omega)]
 exact unhex_stop _ _ _
theorem unhex_small (most : Nat) (tail : Byt) : ∀ (s out : Byt),out.length ≤ most → most < out.length + s.length → unhexS most (hexB s ++ tail) none out = ([],.long)
 | [],out,h1,h2=>by simp at h2; omega
 | c :: s,out,h1,h2=>by
  obtain ⟨a1,a2,a3,b1,b2,b3,e⟩:=hexC_ok c
  simp only [List.length_cons] at h2
  rw [hexB_cons,List.cons_append,List.cons_append,unhexS_dig0 a1 a2 a3,unhexS_dig1 b1 b2 b3]
  by_cases h : out.length + 1 ≤ most
  ·rw [if_pos h,e]
   exact unhex_small most tail s (out ++ [c]) (by simp; omega) (by simp; omega)
  ·rw [if_neg h]
theorem unhex_cut (s : Byt) (h : s.length ≤ 1048576) : unhexD (hexB s) s.length = ([],.ending):=by
 unfold unhexD
 have:=unhex_run (min (s.length : Int).toNat 1048576) [] s [] (by simp; omega)
 rw [if_neg (by omega),← List.append_nil (hexB s),this]
 simp [unhexS]
theorem hexB_len (s : Byt) : (hexB s).length = 2 * s.length:=by
 induction s with
 | nil=>rfl
 | cons c s ih=>rw [hexB_cons]; simp [ih]; omega
theorem unhexS_pre {most : Nat} {s t : Byt} (h : ∀ half out,unhexS most s half out = unhexS most t half out) : ∀ (a : Byt) (half : Option Nat) (out : Byt),unhexS most (a ++ s) half out = unhexS most (a ++ t) half out
 | [],half,out=>h half out
 | c :: a,half,out=>by
  simp only [List.cons_append,unhexS]
  have ih:=unhexS_pre h a
  simp only [ih]
theorem unhex_white {most : Nat} {a b : Byt} {w : UInt8} (hw : whiteC w = true) (half : Option Nat) (out : Byt) : unhexS most (a ++ w :: b) half out = unhexS most (a ++ b) half out :=
 unhexS_pre (fun _ _=>unhexS_white hw) a half out
def lowC (c : UInt8) : UInt8:=if 65 ≤ c ∧ c ≤ 70 then c + 32 else c
theorem lowC_ok (c : UInt8) : whiteC (lowC c) = whiteC c ∧ (lowC c = 62 ↔ c = 62) ∧ digC (lowC c) = digC c :=
 u8_all (p:=fun c=>whiteC (lowC c) = whiteC c ∧ (lowC c = 62 ↔ c = 62) ∧ digC (lowC c) = digC c) (by decide +kernel) c
theorem unhex_low (most : Nat) : ∀ (s : Byt) (half : Option Nat) (out : Byt),unhexS most (s.map lowC) half out = unhexS most s half out
 | [],_,_=>rfl
 | c :: s,half,out=>by
  obtain ⟨h1,h2,h3⟩:=lowC_ok c
  simp only [List.map_cons,unhexS,h1,h2,h3,unhex_low most s]
/-! ### run lengths -/
def alikeN : Byt → Nat
 | []=>0
 | c :: s=>min 128 ((c :: s).takeWhile (· == c)).length
def litGo : Byt → Nat → Nat
 | [],k=>k
 | c :: s,k=>if 128 ≤ k then k else if alikeN (c :: s) < 3 then litGo s (k + 1) else k
theorem litGo_ge : ∀ (s : Byt) (k : Nat),k ≤ litGo s k
 | [],k=>Nat.le_refl k
 | c :: s,k=>by
  unfold litGo
  split
  ·exact Nat.le_refl k
  ·split
   ·exact Nat.le_of_succ_le (litGo_ge s (k + 1))
   ·exact Nat.le_refl k
theorem litGo_le : ∀ (s : Byt) (k : Nat),k ≤ 128 → litGo s k ≤ 128 ∧ litGo s k ≤ k + s.length
 | [],k,h=>⟨h,Nat.le_refl _⟩
 | c :: s,k,h=>by
  unfold litGo
  split
  ·exact ⟨h,Nat.le_add_right _ _⟩
  ·split
   ·have:=litGo_le s (k + 1) (by omega)
    simp only [List.length_cons]
    omega
   ·exact ⟨h,Nat.le_add_right _ _⟩
theorem lit_pos {c : UInt8} {s : Byt} (h : alikeN (c :: s) < 3) : 1 ≤ litGo (c :: s) 0:=by
 unfold litGo
 rw [if_neg (by omega),if_pos h]
 exact litGo_ge s 1
theorem alikeN_cons (c : UInt8) (s : Byt) : alikeN (c :: s) = min 128 ((c :: s).takeWhile (· == c)).length:=rfl
theorem tw_mem {p : UInt8 → Bool} : ∀ {l : Byt} {x : UInt8},x ∈ l.takeWhile p → p x = true
 | a :: l,x,h=>by
  rw [List.takeWhile_cons] at h
  split at h
  ·rcases List.mem_cons.1 h with rfl | h
   ·assumption
   ·exact tw_mem h
  ·cases h
theorem alikeN_le (s : Byt) : alikeN s ≤ 128 ∧ alikeN s ≤ s.length:=by
 cases s with
 | nil=>exact ⟨Nat.zero_le _,Nat.le_refl _⟩
 | cons c s =>
  have:=(List.takeWhile_sublist (l:=c :: s) (· == c)).length_le
  rw [alikeN_cons]
  omega
theorem run_take {c : UInt8} {s : Byt} {k : Nat} (hk : k ≤ (s.takeWhile (· == c)).length) : s.take k = List.replicate k c:=by
 obtain ⟨t,ht⟩:=List.takeWhile_prefix (l:=s) (· == c)
 have e : s.take k = (s.takeWhile (· == c)).take k:=by
  rw [← List.take_append_of_le_length (l₂:=t) hk,ht]
 rw [e]
 refine List.eq_replicate_iff.2 ⟨by rw [List.length_take]; omega,fun x hx=>?_⟩
 have:=tw_mem (List.mem_of_mem_take hx)
 simpa using this
theorem alikeN_run {c : UInt8} {s : Byt} : (c :: s).take (alikeN (c :: s)) = List.replicate (alikeN (c :: s)) c:=run_take (by rw [alikeN_cons]; omega)
def runB (s : Byt) : Byt :=
 match s with
 | []=>[]
 | c :: t=>if 3 ≤ alikeN (c :: t) then UInt8.ofNat (257 - alikeN (c :: t)) :: c :: runB ((c :: t).drop (alikeN (c :: t)))
  else UInt8.ofNat (litGo (c :: t) 0 - 1) :: ((c :: t).take (litGo (c :: t) 0) ++ runB ((c :: t).drop (litGo (c :: t) 0)))
termination_by s.length
decreasing_by
 ·simp only [List.length_drop,List.length_cons]; omega
 ·have:=lit_pos (c:=c) (s:=t) (by omega)
  simp only [List.length_drop,List.length_cons]; omega
def runE (s : Byt) : Byt:=runB s ++ [128]
def unrunS (most : Nat) (s out : Byt) : Byt × AErr :=
 match s with
 | []=>([],.ending)
 | c :: t=>if c = 128 then (out,.ok)
  else if c < 128 then
   if t.length ≤ c.toNat then ([],.ending) else if out.length + (c.toNat + 1) ≤ most then unrunS most (t.drop (c.toNat + 1)) (out ++ t.take (c.toNat + 1)) else ([],.long)
  else match t with
   | []=>([],.ending)
   | x :: t=>if out.length + (257 - c.toNat) ≤ most then unrunS most t (out ++ List.replicate (257 - c.toNat) x) else ([],.long)
termination_by s.length
decreasing_by
 ·simp only [List.length_drop,List.length_cons]; omega
 ·simp only [List.length_cons]; omega
def unrunD (s : Byt) (most : Int) : Byt × AErr:=if most < 0 then ([],.arg) else unrunS (min most.toNat 1048576) s []
theorem unrunS_nil (most : Nat) (out : Byt) : unrunS most [] out = ([],.ending):=by rw [unrunS.eq_def]
theorem unrunS_big {most : Nat} {c x : UInt8} {t out : Byt} (h1 : c ≠ 128) (h2 : ¬ c < 128) : unrunS most (c :: x :: t) out = if out.length + (257 - c.toNat) ≤ most then unrunS most t (out ++ List.replicate (257 - c.toNat) x) else ([],.long):=by
 conv=>lhs; rw [unrunS.eq_def]
 simp only [h1,h2,if_false]
theorem runB_nil : runB [] = []:=by rw [runB]
theorem runB_many {c : UInt8} {t : Byt} (h : 3 ≤ alikeN (c :: t)) : runB (c :: t) = UInt8.ofNat (257 - alikeN (c :: t)) :: c :: runB ((c :: t).drop (alikeN (c :: t))):=by rw [runB,if_pos h]
theorem runB_few {c : UInt8} {t : Byt} (h : ¬ 3 ≤ alikeN (c :: t)) : runB (c :: t) = UInt8.ofNat (litGo (c :: t) 0 - 1) :: ((c :: t).take (litGo (c :: t) 0) ++ runB ((c :: t).drop (litGo (c :: t) 0))):=by rw [runB,if_neg h]
theorem unrun_many {most n : Nat} {x : UInt8} {t out : Byt} (h1 : 2 ≤ n) (h2 : n ≤ 128) : unrunS most (UInt8.ofNat (257 - n) :: x :: t) out = if out.length + n ≤ most then unrunS most t (out ++ List.replicate n x) else ([],.long):=by
 have ht : (UInt8.ofNat (257 - n)).toNat = 257 - n:=by rw [UInt8.toNat_ofNat']; omega
 rw [unrunS_big (by rw [ne_eq,← UInt8.toNat_inj,ht]; show ¬ 257 - n = 128; omega) (by rw [UInt8.lt_iff_toNat_lt,ht]; show ¬ 257 - n < 128; omega),ht,show 257 - (257 - n) = n by omega]
theorem unrun_few {most n : Nat} {a t out : Byt} (h1 : 1 ≤ n) (h2 : n ≤ 128) (ha : a.length = n) : unrunS most (UInt8.ofNat (n - 1) :: (a ++ t)) out = if out.length + n ≤ most then unrunS most t (out ++ a) else ([],.long):=by
 have ht : (UInt8.ofNat (n - 1)).toNat = n - 1:=by rw [UInt8.toNat_ofNat']; omega
 conv=>lhs; rw [unrunS.eq_def]
 simp only []
 rw [if_neg (by rw [← UInt8.toNat_inj,ht]; show ¬ n - 1 = 128; omega),if_pos (by rw [UInt8.lt_iff_toNat_lt,ht]; show n - 1 < 128; omega),ht,if_neg (by rw [List.length_append]; omega),show n - 1 + 1 = n by omega,List.drop_left' ha,List.take_left' ha]
theorem unrun_run (most : Nat) (tail : Byt) : ∀ (n : Nat) (s out : Byt),s.length ≤ n → out.length + s.length ≤ most → unrunS most (runB s ++ tail) out = unrunS most tail (out ++ s)
 | _,[],out,_,_=>by rw [runB_nil,List.append_nil] <;> rfl
 | 0,c :: t,out,h,_=>absurd h (by simp)
 | n + 1,c :: t,out,h,hm=>by
  by_cases h3 : 3 ≤ alikeN (c :: t)
  ·have hl:=alikeN_le (c :: t)
   have hd : ((c :: t).drop (alikeN (c :: t))).length = (c :: t).length - alikeN (c :: t):=List.length_drop
   rw [runB_many h3,List.cons_append,List.cons_append,unrun_many (by omega) hl.1,if_pos (by omega),unrun_run most tail n _ _ (by simp only [List.length_cons] at h hd ⊢; omega) (by rw [hd,List.length_append,List.length_replicate]; omega),
    ← alikeN_run,List.append_assoc,List.take_append_drop]
  ·have hp:=lit_pos (c:=c) (s:=t) (by omega)
   have hl:=litGo_le (c :: t) 0 (by omega)
   have hd : ((c :: t).drop (litGo (c :: t) 0)).length = (c :: t).length - litGo (c :: t) 0:=List.length_drop
   have ht : ((c :: t).take (litGo (c :: t) 0)).length = litGo (c :: t) 0:=by rw [List.length_take]; omega
   rw [runB_few h3,List.cons_append,List.append_assoc,unrun_few hp hl.1 ht,if_pos (by omega),unrun_run most tail n _ _ (by simp only [List.length_cons] at h hd ⊢; omega) (by rw [hd,List.length_append,ht]; omega),
    List.append_assoc,List.take_append_drop]
theorem unrun_small (most : Nat) (tail : Byt) : ∀ (n : Nat) (s out : Byt),s.length ≤ n → out.length ≤ most → most < out.length + s.length → unrunS most (runB s ++ tail) out = ([],.long)
 | _,[],out,_,h1,h2=>by simp at h2; omega
 | 0,c :: t,out,h,_,_=>absurd h (by simp)
 | n + 1,c :: t,out,h,h1,h2=>by
  by_cases h3 : 3 ≤ alikeN (c :: t)
  ·have hl:=alikeN_le (c :: t)
   have hd : ((c :: t).drop (alikeN (c :: t))).length = (c :: t).length - alikeN (c :: t):=List.length_drop
   rw [runB_many h3,List.cons_append,List.cons_append,unrun_many (by omega) hl.1]
   split
   ·exact unrun_small most tail n _ _ (by simp only [List.length_cons] at h hd ⊢; omega) (by rw [List.length_append,List.length_replicate]; omega) (by rw [hd,List.length_append,List.length_replicate]; omega)
   ·rfl
  ·have hp:=lit_pos (c:=c) (s:=t) (by omega)
   have hl:=litGo_le (c :: t) 0 (by omega)
   have hd : ((c :: t).drop (litGo (c :: t) 0)).length = (c :: t).length - litGo (c :: t) 0:=List.length_drop
   have ht : ((c :: t).take (litGo (c :: t) 0)).length = litGo (c :: t) 0:=by rw [List.length_take]; omega
   rw [runB_few h3,List.cons_append,List.append_assoc,unrun_few hp hl.1 ht]
   split
   ·exact unrun_small most tail n _ _ (by simp only [List.length_cons] at h hd ⊢; omega) (by rw [List.length_append,ht]; omega) (by rw [hd,List.length_append,ht]; omega)
   ·rfl
theorem unrun_stop (most : Nat) (tail out : Byt) : unrunS most (128 :: tail) out = (out,.ok):=by
 conv=>lhs; rw [unrunS.eq_def]
 simp only [if_true]
theorem unrun_back (s behind : Byt) (h : s.length ≤ 1048576) : unrunD (runE s ++ behind) s.length = (s,.ok):=by
 unfold unrunD runE
 rw [if_neg (by omega),List.append_assoc,unrun_run _ _ s.length s [] (Nat.le_refl _) (by simp; omega)]
 exact unrun_stop _ _ _
theorem unrun_cut (s : Byt) (h : s.length ≤ 1048576) : unrunD (runB s) s.length = ([],.ending):=by
 unfold unrunD
 have:=unrun_run (min (s.length : Int).toNat 1048576) [] s.length s [] (Nat.le_refl _) (by simp; omega)
 rw [if_neg (by omega),← List.append_nil (runB s),this,unrunS_nil]
theorem lit_stop : ∀ (s : Byt) (k : Nat),litGo s k < 128 → s.drop (litGo s k - k) = [] ∨ 3 ≤ alikeN (s.drop (litGo s k - k))
 | [],k,_=>.inl (by simp)
 | c :: s,k,h=>by
  unfold litGo at h ⊢
  split at h
  ·omega
  ·rename_i h1
   rw [if_neg h1]
   split at h
   ·rename_i h2
    rw [if_pos h2]
    have hg:=litGo_ge s (k + 1)
    rw [show litGo s (k + 1) - k = (litGo s (k + 1) - (k + 1)) + 1 by omega,List.drop_succ_cons]
    exact lit_stop s (k + 1) h
   ·rename_i h2
    rw [if_neg h2,Nat.sub_self]
    exact .inr (by simpa using h2)
theorem runB_len : ∀ (n : Nat) (s : Byt),s.length ≤ n → (runB s).length ≤ s.length + (s.length + 127) / 128 ∧ (3 ≤ alikeN s → (runB s).length + 1 ≤ s.length + (s.length + 127) / 128)
 | _,[],_=>⟨by rw [runB_nil]; exact Nat.zero_le _,fun h=>absurd h (by decide)⟩
 | 0,c :: t,h=>absurd h (by simp)
 | n + 1,c :: t,h=>by
  by_cases h3 : 3 ≤ alikeN (c :: t)
  ·have hl:=alikeN_le (c :: t)
   have hd : ((c :: t).drop (alikeN (c :: t))).length = (c :: t).length - alikeN (c :: t):=List.length_drop
   have ih:=(runB_len n ((c :: t).drop (alikeN (c :: t))) (by simp only [List.length_cons] at h hd ⊢; omega)).1
   rw [runB_many h3,List.length_cons,List.length_cons]
   omega
  ·have hp:=lit_pos (c:=c) (s:=t) (by omega)
   have hl:=litGo_le (c :: t) 0 (by omega)
   have hd : ((c :: t).drop (litGo (c :: t) 0)).length = (c :: t).length - litGo (c :: t) 0:=List.length_drop
   have ht : ((c :: t).take (litGo (c :: t) 0)).length = litGo (c :: t) 0:=by rw [List.length_take]; omega
   have ih:=runB_len n ((c :: t).drop (litGo (c :: t) 0)) (by simp only [List.length_cons] at h hd ⊢; omega)
   rw [runB_few h3,List.length_cons,List.length_append,ht]
   refine ⟨?_,fun h=>absurd h h3⟩
   by_cases h4 : litGo (c :: t) 0 < 128
   ·rcases lit_stop (c :: t) 0 h4 with h5 | h5
    ·rw [Nat.sub_zero] at h5
     rw [h5] at hd ⊢
     rw [runB_nil]
     simp only [List.length_nil] at hd ⊢
     omega
    ·rw [Nat.sub_zero] at h5
     have:=ih.2 h5
     omega
   ·omega
theorem runE_len (s : Byt) : (runE s).length ≤ s.length + (s.length + 127) / 128 + 1:=by
 have:=(runB_len s.length s (Nat.le_refl _)).1
 unfold runE
 rw [List.length_append]
 exact Nat.succ_le_succ this
theorem alike_same (m : Nat) (c : UInt8) : alikeN (List.replicate (m + 1) c) = min 128 (m + 1):=by
 have h : ∀ k : Nat,(List.replicate k c).takeWhile (· == c) = List.replicate k c:=fun k=>by
  induction k with
  | zero=>rfl
  | succ k ih=>rw [List.replicate_succ,List.takeWhile_cons,if_pos (by simp),ih]
 rw [List.replicate_succ,alikeN_cons,← List.replicate_succ,h,List.length_replicate]
theorem same_len : ∀ (n m : Nat) (c : UInt8),m ≤ n → (runB (List.replicate m c)).length ≤ 2 * ((m + 127) / 128) + 1
 | _,0,c,_=>by rw [List.replicate_zero,runB_nil]; exact Nat.zero_le _
 | 0,m + 1,c,h=>by omega
 | n + 1,m + 1,c,h=>by
  have ha:=alike_same m c
  have hr : List.replicate (m + 1) c = c :: List.replicate m c:=List.replicate_succ
  by_cases h3 : 3 ≤ m + 1
  ·have h4 : 3 ≤ alikeN (c :: List.replicate m c):=by rw [← hr,ha]; omega
   rw [hr,runB_many h4,← hr,ha,List.drop_replicate,List.length_cons,List.length_cons]
   have ih:=same_len n (m + 1 - min 128 (m + 1)) c (by omega)
   by_cases h5 : m + 1 ≤ 128
   ·rw [show m + 1 - min 128 (m + 1) = 0 by omega,List.replicate_zero,runB_nil]
    simp only [List.length_nil]
    omega
   ·omega
  ·have h4 : ¬ 3 ≤ alikeN (c :: List.replicate m c):=by rw [← hr,ha]; omega
   have:=(runB_len (m + 1) (c :: List.replicate m c) (by simp)).1
   rw [hr]
   simp only [List.length_cons,List.length_replicate] at this
   omega
theorem same_short (m : Nat) (c : UInt8) : (runE (List.replicate m c)).length ≤ 2 * ((m + 127) / 128) + 2:=by
 have:=same_len m m c (Nat.le_refl _)
 unfold runE
 rw [List.length_append]
 exact Nat.succ_le_succ this
end Aw
