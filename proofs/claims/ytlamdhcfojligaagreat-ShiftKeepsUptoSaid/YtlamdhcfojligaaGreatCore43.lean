/- Rules of a calculus of walks: no condition of its own. -/
import Derived.Test.YtlamdhcfojligaaGreatCore42
namespace Aw
open Go
def plainA : AV → Bool
 | .int _ _=>true
 | .str _=>true
 | .bool _=>true
 | _=>false
theorem plain_rep {m m' : Mem} {k k' : Nat} : ∀ (x : AV) (v : Value),plainA x = true → Rep m k x v → Rep m' k' x v:=by
 intro x v hc h
 cases x <;> first | (simp only [plainA] at hc; cases hc; done) | (simpa only [Rep] using h)
section
variable {P : Program} {ds : List (Option Tmp)} {σ : St} {o : Oper} {K : St → Prop} {Kp : AV → St → Prop} {ob ob' : Prop} {f : FuncId} {ys xs : List AV} {y : AV}
theorem SemStep.callT (h : acall σ o.op = some (ob,f,ys)) (hob : ob) (hd : dstOk σ.n o.dst = true) (hx : mapO (shr true (frzs σ.hp (ys.flatMap (rids σ.hp 9))) 9) ys = some (ob',xs)) (hob' : ob')
  (hc : FnP P σ.gl f xs fun r=>r = .ret y) (hy : plainA y = true) (hK : K (σ.put o.dst y)) : SemStep P σ o K Kp:=by
 intro m a N Q hS hN hQ
 obtain ⟨vs,hexec,hvs⟩:=acall_sound hS h hob
 unfold Oper.wp
 rw [hexec,hc.enters,Oper.upon_enter]
 obtain ⟨m1,e1,eρ,l1,k1,H1⟩:=frzs_sound (ys.flatMap (rids σ.hp 9)) hS.h
 have hS1:=hS.of k1 H1
 have hin : KF m1 m1.inner:=⟨fun _ _ h=>h,fun _ _ _=>rfl⟩
 have hKP : KP m1 m1.inner:=⟨fun b hb=>H1.Pold b hb,fun _ _=>rfl⟩
 have hargs : RepL m1.inner 1 xs vs:=by
  have:=mapO_sound (m:=m1) (m':=m1.inner) (k:=1) (f:=shr true (frzs σ.hp (ys.flatMap (rids σ.hp 9))) 9)
   (fun x y v ob h hob hv=>by simpa using shr_sound H1 true hin rfl (fun _ b hb=>hb) 9 x y v ob h hob hv) hx hob' (RepL.mono k1 0 _ _ hvs)
  exact this
 have hstart : Start m1.inner σ.gl:=⟨H1.Fold,fun _ hb=>hb,fun g x hg=>Rep.monoK hin 1 (fun _=>hKP) (Nat.le_refl 1) _ _ (hS1.gl g x hg),rfl,fun _=>rfl⟩
 have hcall:=hc.calls m1.inner vs hstart hargs
 have e2 : m1.inner.w = m.w:=e1
 rw [e2] at hcall
 refine hcall.mono ?_
 rintro e w' ⟨m',r,rfl,hle,hFs,hend,rfl⟩
 obtain ⟨v,rfl,hv⟩:=hend
 have hPr : ∀ b,b < m.w.heap.size → m'.Pr b:=fun b hb=>by
  rw [hle.Pr]
  show b < m1.w.heap.size
  rw [e1]
  exact hb
 have old : ∀ b,b < m.w.heap.size → m'.w.heap[b]? = m.w.heap[b]?:=fun b hb=>by
  rw [hle.block b (by rw [← hle.Pr]; exact hPr b hb),e2]
 have hsz : m.w.heap.size ≤ m'.w.heap.size:=by have:=hle.size; rw [e2] at this; exact this
 have hk : m.keeps { m with w:=m'.w }:=⟨rfl,fun _ h=>h,fun b hb=>old b (hS.h.Pold b hb),fun _ _ h=>h,fun b o hf=>cell?_of_block (old b (hS.h.Fold b o hf)),fun _ _ h=>h⟩
 have hl : m.le { m with w:=m'.w }:=⟨by have:=hle.os; rw [e2] at this; exact this,by have:=hle.tape; rw [e2] at this; exact this,by have:=hle.output; rw [e2] at this; exact this,hsz,rfl,fun b hb=>old b (hS.h.Pold b hb),fun _ _ h=>h,fun b o hf=>cell?_of_block (old b (hS.h.Fold b o hf)),fun _ _ _ h=>h,rfl,fun _ _ _ h=>h⟩
 have hH : SimH { m with w:=m'.w } σ.hp σ.nx:=by
  refine ⟨fun id x hx=>?_,hS.h.apart,hS.h.fresh,fun b o hf=>Nat.lt_of_lt_of_le (hS.h.Fold b o hf) hsz,fun b hb=>Nat.lt_of_lt_of_le (hS.h.Pold b hb) hsz⟩
  obtain ⟨r0,h1,h2⟩:=hS.h.blk id x hx
  exact ⟨r0,h1,h2.mono hk (fun h=>h) (fun _ h=>h) (fun hn=>old _ (h2.lt hn))⟩
 exact hN { m with w:=m'.w } _ _ hl hk (hS.put hk hH hd (plain_rep (k':=0) y v hy hv)) (.eff (acall_isEff h) (acall_notA h)) .put hK
theorem awGuard.cTG {p : Nat × Bool} {g : Bool} (hc : g = true → FnP P σ.gl f xs fun r=>r = .ret y) (hK : K (σ.put o.dst (.opt g y))) (hg : o.guard = some p:=by exact rfl) (hgv : gAt ds σ p.1 p.2 = some g:=by (simp only [go_sem,seval]; iterate 2 try (simp (disch:=omega) only [zq]; try simp only [go_sem,seval])); exact rfl)
  (h : acall σ o.op = some (ob,f,ys):=by (simp only [go_sem,seval]; iterate 2 try (simp (disch:=omega) only [zq]; try simp only [go_sem,seval])); exact rfl) (hx : mapO (shr true (frzs σ.hp (ys.flatMap (rids σ.hp 9))) 9) ys = some (ob',xs):=by (simp only [go_sem,seval]; iterate 2 try (simp (disch:=omega) only [zq]; try simp only [go_sem,seval])); exact rfl) (hd : dstOk σ.n o.dst = true:=by (simp only [go_sem,seval]; iterate 2 try (simp (disch:=omega) only [zq]; try simp only [go_sem,seval]))) (hy : plainA y = true:=by exact rfl) (hob : g = true → ob:=by ((try (simp only [go_sem,seval]; iterate 2 try (simp (disch:=omega) only [zq]; try simp only [go_sem,seval]))); try (first | exact True.intro | omega | (simp only [zb]; omega) | (simp; done) | (simp; omega) | (and_intros <;> first | assumption | omega | (simp; done) | (simp; omega))))) (hob' : g = true → ob':=by ((try (simp only [go_sem,seval]; iterate 2 try (simp (disch:=omega) only [zq]; try simp only [go_sem,seval]))); try (first | exact True.intro | omega | (simp only [zb]; omega) | (simp; done) | (simp; omega) | (and_intros <;> first | assumption | omega | (simp; done) | (simp; omega))))) : awGuard P ds o σ K Kp:=by
 unfold awGuard
 rw [hg]
 simp only
 rw [hgv]
 simp only
 rw [(acall_pure h).1]
 simp only
 refine .inr ⟨y,hd,fun ht=>?_,hK⟩
 exact SemStep.callT h (hob ht) hd hx (hob' ht) (hc ht) hy rfl
end
end Aw
