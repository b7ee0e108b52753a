/- Rules of a calculus of walks: no condition of its own. -/
import Derived.Test.YtboaclfnjdhcpaaDoorCore46
set_option linter.unusedVariables false
namespace Aw
open Go
section
variable {P : Program} {m : Mem} {a : Act} {σ : St}
theorem rowM_sound {hp : List (Nat × ABlk)} {nx : Nat} (hH : SimH m hp nx) {w' : World} {c : Array Value} {T : TypeId} {lo hi : Nat} (hw : Alloc m.w w' (.cells c T (lo,hi)))
  {es : List (List AV)} {sz cap : Nat} (hsz : 1 ≤ sz) (hes : ∀ e ∈ es,e.length = sz) (hcap : es.length ≤ cap) (hc : cap * sz ≤ c.size) (hfr : ∀ i,i < c.size → ¬ (lo ≤ i ∧ i < hi))
  (hL : RepL m 2 es.flatten (c.toList.take es.flatten.length)) :
  ∃ m' : Mem,m'.w = w' ∧ m.le m' ∧ m.keeps m' ∧ SimH m' (set hp nx (.mrow sz es)) (nx + 1) ∧
   Rep m' 0 (.row nx 0 es.length) (.slice (some ⟨m.w.heap.size,0,none⟩) es.length cap):=by
 let ri : RI:=⟨m.w.heap.size,0,cap,sz,false⟩
 have hU:=Upd.alloc hH hw ri (fun _ _=>False) (fun _ _ h=>h.elim)
 refine ⟨m.with w' nx ri (fun _ _=>False),rfl,hU.le hH,hU.keeps hH,hH.alloc hw (fun _ _ h=>h.elim) rfl ?_,?_⟩
 ·refine ⟨rfl,.inr ⟨rfl,?_,⟨hsz,rfl⟩,hcap,⟨c,T,lo,hi,hw.new,by simpa using hfr,by simpa [ri] using hc⟩,?_⟩⟩
  ·intro h; have:=hH.Pold _ h; exact absurd this (Nat.lt_irrefl _)
  ·rw [if_pos rfl]
   refine ⟨RepY.flat.2 ⟨hes,RepX.of_list hw.new ?_⟩,?_⟩
   ·rw [List.drop_zero]
    exact RepL.mono (hU.keeps hH) 2 _ _ hL
   ·intro i _ h
    rcases h with h | h
    ·have:=hH.Fold _ i h; exact absurd this (Nat.lt_irrefl _)
    ·exact h
 ·simp only [Rep,true_and]
  refine ⟨ri,by simp [Mem.with],?_⟩
  by_cases h : 0 < cap
  ·exact .inr (.inl ⟨rfl,by simpa [ri] using hcap,h,by simp [ri]⟩)
  ·have h0 : cap = 0:=by omega
   have h1 : es.length = 0:=by omega
   exact .inr (.inr ⟨rfl,by simp [ri,h0],h1,⟨m.w.heap.size,0,none⟩,by rw [h0,h1]⟩)
theorem cvt_run {o : Oper} {s d e' : TypeId} {x : Operand} {si di ei : TI} {l : List UInt8} (ho : o.op = .convert s d x) (hsi : tinfo P s = some si) (hsk : si.k = .str) (hdi : tinfo P d = some di) (hdk : di.k = .slice e')
  (hei : tinfo P e' = some ei) (hek : ei.k = .int .u8) (hv : a.eval x = .string ⟨l.toArray⟩) :
  ∃ (cap : Nat) (w' : World) (c : Array Value),(bytesAV l).length ≤ cap ∧ Alloc m.w w' (.cells c e' (c.size,c.size + 1)) ∧ cap * 1 ≤ c.size ∧ RepL m 2 (bytesAV l).flatten (c.toList.take (bytesAV l).flatten.length) ∧
   (execOp a.eval o).run P m.w = .ok (.value (.slice (some ⟨m.w.heap.size,0,none⟩) (bytesAV l).length cap)) w':=by
 let q : Question:=.appendCap l.length 0 e'
 let cap:=q.cut (m.w.tape m.w.drawn q)
 have hcap : l.length ≤ cap:=by simp only [cap,q,Question.cut]; omega
 let w1 : World:={ m.w with drawn:=m.w.drawn + 1 }
 let c : Array Value:=(l.map fun b=>Value.int .u8 (b.toNat : Int)).toArray ++ Array.replicate (cap - l.length) (.int .u8 0)
 have hcs : c.size = cap:=by simp [c]; omega
 let w' : World:={ w1 with heap:=m.w.heap.push (.cells c e' (c.size,c.size + 1)) }
 have hw : Alloc m.w w' (.cells c e' (c.size,c.size + 1)):=⟨rfl,rfl,rfl,rfl⟩
 have hbl : (bytesAV l).length = l.length:=by simp [bytesAV]
 refine ⟨cap,w',c,by omega,hw,by omega,?_,?_⟩
 ·have e1 : (bytesAV l).flatten.length = (l.map fun b=>Value.int .u8 (b.toNat : Int)).length:=(RepL.bytes (m:=m) (kk:=0) l).length.symm
  rw [e1]
  simp only [c,Array.toList_append]
  rw [List.take_left]
  exact RepL.bytes l
 rw [hbl]
 simp only [execOp,ho]
 refine run_value ?_
 have hsr:=run_str_ti (w:=m.w) hsi hsk
 have hdr:=run_slice_ti (w:=m.w) hdi hdk
 have her:=(run_int_ti (w:=m.w) hei hek).1
 have hch : (choose q).run P m.w = .ok cap w1:=by
  simp only [choose,Sem.run]
  rw [if_neg (by simp [q,Question.forced])]
 have hsize : (⟨l.toArray⟩ : ByteArray).size = l.length:=by show l.toArray.size = _; simp
 rw [hv]
 simp only [convert,Sem.run_bind,hsr,hdr,Result.andThen_ok,her,Conv.stringToBytes,hsize]
 rw [show (choose (.appendCap l.length 0 e')).run P m.w = .ok cap w1 from hch]
 simp only [Result.andThen_ok,run_newRow]
 have hcc : (⟨l.toArray⟩ : ByteArray).data.map (fun b=>Value.int .u8 (b.toNat : Int)) ++ Array.replicate (cap - l.length) (.int .u8 0) = c:=by
  simp only [c,List.map_toArray]
 rw [hcc]
 have hms : (markStringish ⟨w1.heap.size,0,none⟩).run P { w1 with heap:=w1.heap.push (.cells c e') } = .ok () w':=by
  have hsh : ({ w1 with heap:=w1.heap.push (.cells c e') } : World).shape? w1.heap.size = some (e',c.size):=by
   simp [World.shape?]
  simp only [markStringish,Sem.run_bind,shape,Sem.run,hsh,Result.andThen_ok,freeze]
  congr 1
  simp only [World.freeze,w',Nat.add_one_ne_zero,if_false]
  congr 1
  apply Array.ext_getElem?
  intro i
  rw [Array.getElem?_modify,Array.getElem?_push,Array.getElem?_push]
  by_cases hi : i = w1.heap.size
  ·rw [if_pos hi.symm,if_pos hi,if_pos hi]
   simp
  ·rw [if_neg (fun h=>hi h.symm),if_neg hi,if_neg hi]
 rw [hms]
 simp only [Result.andThen_ok]
 rfl
end
section
variable {P : Program} {ds : List (Option Tmp)} {σ : St} {o : Oper} {K : St → Prop} {Kp : AV → St → Prop} {ob ob' : Prop}
theorem bytes_one (l : List UInt8) : ∀ e ∈ bytesAV l,e.length = 1:=by
 intro e he
 simp only [bytesAV,List.mem_map] at he
 obtain ⟨b,_,rfl⟩:=he
 rfl
theorem awGuard.cvF {s d e' : TypeId} {x : Operand} {si di ei : TI} {l : List UInt8} (hK : K (St.put ⟨σ.n,σ.env,set σ.hp σ.nx (.row 1 (bytesAV l) false),σ.nx + 1,σ.gl,σ.np,σ.df⟩ o.dst (.row σ.nx 0 l.length))) (hg : o.guard = none:=by exact rfl) (ho : o.op = .convert s d x:=by exact rfl)
  (hsi : tinfo P s = some si:=by (simp only [go_sem,seval]; iterate 2 try (simp (disch:=omega) only [zq]; try simp only [go_sem,seval])); exact rfl) (hsk : si.k = .str:=by exact rfl) (hdi : tinfo P d = some di:=by (simp only [go_sem,seval]; iterate 2 try (simp (disch:=omega) only [zq]; try simp only [go_sem,seval])); exact rfl) (hdk : di.k = .slice e':=by exact rfl) (hei : tinfo P e' = some ei:=by (simp only [go_sem,seval]; iterate 2 try (simp (disch:=omega) only [zq]; try simp only [go_sem,seval])); exact rfl) (hek : ei.k = .int .u8:=by exact rfl)
  (hx : evE σ x = some (ob,.str l):=by (simp only [go_sem,seval]; iterate 2 try (simp (disch:=omega) only [zq]; try simp only [go_sem,seval])); exact rfl) (hob : ob:=by ((try (simp only [go_sem,seval]; iterate 2 try (simp (disch:=omega) only [zq]; try simp only [go_sem,seval]))); try (first | exact True.intro | omega | (simp only [zb]; omega) | (simp; done) | (simp; omega) | (and_intros <;> first | assumption | omega | (simp; done) | (simp; omega))))) (hd : dstOk σ.n o.dst = true:=by (simp only [go_sem,seval]; iterate 2 try (simp (disch:=omega) only [zq]; try simp only [go_sem,seval]))) (h1 : pureOp P σ true o.op = none:=by (try (simp only [go_sem,seval]; iterate 2 try (simp (disch:=omega) only [zq]; try simp only [go_sem,seval]))) <;> (try exact rfl)) (h2 : effOp P σ o.op = none:=by (try (simp only [go_sem,seval]; iterate 2 try (simp (disch:=omega) only [zq]; try simp only [go_sem,seval]))) <;> (try exact rfl)) : awGuard P ds o σ K Kp:=by
 refine awGuard.effK ⟨True,.row σ.nx 0 l.length,set σ.hp σ.nx (.row 1 (bytesAV l) false),σ.nx + 1⟩ hg h1 h2 hd (.inl (by rw [ho]; rfl)) (fun m a hS=>?_) hK (by rw [ho]; rfl)
 have hv:=evE_sound hS hx hob
 simp only [Rep] at hv
 obtain ⟨cap,w',c,q1,q2,q3,q4,q5⟩:=cvt_run (P:=P) (m:=m) (a:=a) ho hsi hsk hdi hdk hei hek hv
 obtain ⟨m',g1,g2,g3,g4,g5⟩:=rowF_sound hS.h q2 (Nat.le_refl 1) (bytes_one l) q1 q3 (by intro j hj h; omega) q4
 refine ⟨_,m',.inl (by rw [g1]; exact q5),g2,g3,g4,?_⟩
 have hbl : (bytesAV l).length = l.length:=by simp [bytesAV]
 rw [hbl] at g5 ⊢
 exact g5
theorem awGuard.cvM {s d e' : TypeId} {x : Operand} {si di ei : TI} {l : List UInt8} (hK : K (St.put ⟨σ.n,σ.env,set σ.hp σ.nx (.mrow 1 (bytesAV l)),σ.nx + 1,σ.gl,σ.np,σ.df⟩ o.dst (.row σ.nx 0 l.length))) (hg : o.guard = none:=by exact rfl) (ho : o.op = .convert s d x:=by exact rfl)
  (hsi : tinfo P s = some si:=by (simp only [go_sem,seval]; iterate 2 try (simp (disch:=omega) only [zq]; try simp only [go_sem,seval])); exact rfl) (hsk : si.k = .str:=by exact rfl) (hdi : tinfo P d = some di:=by (simp only [go_sem,seval]; iterate 2 try (simp (disch:=omega) only [zq]; try simp only [go_sem,seval])); exact rfl) (hdk : di.k = .slice e':=by exact rfl) (hei : tinfo P e' = some ei:=by (simp only [go_sem,seval]; iterate 2 try (simp (disch:=omega) only [zq]; try simp only [go_sem,seval])); exact rfl) (hek : ei.k = .int .u8:=by exact rfl)
  (hx : evE σ x = some (ob,.str l):=by (simp only [go_sem,seval]; iterate 2 try (simp (disch:=omega) only [zq]; try simp only [go_sem,seval])); exact rfl) (hob : ob:=by ((try (simp only [go_sem,seval]; iterate 2 try (simp (disch:=omega) only [zq]; try simp only [go_sem,seval]))); try (first | exact True.intro | omega | (simp only [zb]; omega) | (simp; done) | (simp; omega) | (and_intros <;> first | assumption | omega | (simp; done) | (simp; omega))))) (hd : dstOk σ.n o.dst = true:=by (simp only [go_sem,seval]; iterate 2 try (simp (disch:=omega) only [zq]; try simp only [go_sem,seval]))) (h1 : pureOp P σ true o.op = none:=by (try (simp only [go_sem,seval]; iterate 2 try (simp (disch:=omega) only [zq]; try simp only [go_sem,seval]))) <;> (try exact rfl)) (h2 : effOp P σ o.op = none:=by (try (simp only [go_sem,seval]; iterate 2 try (simp (disch:=omega) only [zq]; try simp only [go_sem,seval]))) <;> (try exact rfl)) : awGuard P ds o σ K Kp:=by
 refine awGuard.effK ⟨True,.row σ.nx 0 l.length,set σ.hp σ.nx (.mrow 1 (bytesAV l)),σ.nx + 1⟩ hg h1 h2 hd (.inl (by rw [ho]; rfl)) (fun m a hS=>?_) hK (by rw [ho]; rfl)
 have hv:=evE_sound hS hx hob
 simp only [Rep] at hv
 obtain ⟨cap,w',c,q1,q2,q3,q4,q5⟩:=cvt_run (P:=P) (m:=m) (a:=a) ho hsi hsk hdi hdk hei hek hv
 obtain ⟨m',g1,g2,g3,g4,g5⟩:=rowM_sound hS.h q2 (Nat.le_refl 1) (bytes_one l) q1 q3 (by intro j hj h; omega) q4
 refine ⟨_,m',.inl (by rw [g1]; exact q5),g2,g3,g4,?_⟩
 have hbl : (bytesAV l).length = l.length:=by simp [bytesAV]
 rw [hbl] at g5 ⊢
 exact g5
end
end Aw
