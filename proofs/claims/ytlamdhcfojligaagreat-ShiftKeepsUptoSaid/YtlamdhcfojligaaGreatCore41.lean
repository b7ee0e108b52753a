/- Rules of a calculus of walks: no condition of its own. -/
import Derived.Test.YtlamdhcfojligaaGreatCore40
namespace Aw
open Go
theorem FnH.ofT {P : Program} {gl : List (Nat × AV)} {f : FuncId} {xs : List AV} {hp : List (Nat × ABlk)} {nx : Nat} {R : AE → List (Nat × ABlk) → Nat → Prop} (h : FnT (fun _=>True) P gl f xs hp nx R) : FnH P gl f xs hp nx R:=⟨h.enters,fun m vs hm hv=>h.calls m vs hm trivial hv⟩
theorem RepY.ints {m M : Mem} (hw : M.w = m.w) : ∀ {l : List Int} {b o : Nat},RepY m (intsAV l) b o 1 → RepY M (intsAV l) b o 1
 | [],_,_,_=>by simp [intsAV,RepY]
 | x :: l,b,o,h=>by
  simp only [intsAV,List.map_cons,RepY,RepX,Rep] at h ⊢
  rw [hw]
  exact ⟨h.1,h.2.1,RepY.ints hw h.2.2⟩
def Mem.withRow (m : Mem) (w' : World) (nx : Nat) (ri : RI) : Mem:={ w:=w',F:=m.F,Pr:=m.Pr,ρ:=fun id=>if id = nx then some ri else m.ρ id,np:=m.np }
section
variable {m : Mem} {w' : World} {hp : List (Nat × ABlk)} {nx : Nat} {ri : RI}
theorem withRow_rho (hH : SimH m hp nx) (id : Nat) (r : RI) (hr : m.ρ id = some r) : (m.withRow w' nx ri).ρ id = some r:=by
 show (if id = nx then some ri else m.ρ id) = some r
 rw [if_neg]
 ·exact hr
 ·rintro rfl
  rw [hH.fresh _ (Nat.le_refl _)] at hr
  cases hr
theorem withRow_keeps (hH : SimH m hp nx) (old : ∀ b,b < m.w.heap.size → w'.heap[b]? = m.w.heap[b]?) : m.keeps (m.withRow w' nx ri) :=
 ⟨rfl,fun _ h=>h,fun b hb=>old b (hH.Pold b hb),fun _ _ h=>h,fun b o hf=>cell?_of_block (old b (hH.Fold b o hf)),withRow_rho hH⟩
theorem withRow_le (hH : SimH m hp nx) (old : ∀ b,b < m.w.heap.size → w'.heap[b]? = m.w.heap[b]?) (hsz : m.w.heap.size ≤ w'.heap.size) (h1 : w'.os = m.w.os) (h2 : w'.tape = m.w.tape) (h3 : w'.output = m.w.output) : m.le (m.withRow w' nx ri) :=
 ⟨h1,h2,h3,hsz,rfl,fun b hb=>old b (hH.Pold b hb),fun _ _ h=>h,fun b o hf=>cell?_of_block (old b (hH.Fold b o hf)),fun _ _ _ h=>h,rfl,fun id r _ hr=>withRow_rho hH id r hr⟩
theorem withRow_simH (hH : SimH m hp nx) (old : ∀ b,b < m.w.heap.size → w'.heap[b]? = m.w.heap[b]?) (hsz : m.w.heap.size ≤ w'.heap.size) (hnew : ri.isNil = false → m.w.heap.size ≤ ri.b) {x : ABlk} (hblk : BlkRep (m.withRow w' nx ri) ri x) : SimH (m.withRow w' nx ri) (set hp nx x) (nx + 1):=by
 have hk:=withRow_keeps (ri:=ri) hH old
 refine ⟨?_,?_,?_,fun b o hf=>Nat.lt_of_lt_of_le (hH.Fold b o hf) hsz,fun b hb=>Nat.lt_of_lt_of_le (hH.Pold b hb) hsz⟩
 ·intro id y hy
  rw [get_set] at hy
  split at hy
  ·rename_i e
   subst e
   injection hy with hy
   subst hy
   exact ⟨ri,if_pos rfl,hblk⟩
  ·obtain ⟨r0,h1,h2⟩:=hH.blk id y hy
   refine ⟨r0,withRow_rho hH _ _ h1,h2.mono hk (fun h=>h) (fun _ h=>h) (fun hn=>old _ (h2.lt hn))⟩
 ·intro id id' y y' r0 r1 hx hx' hr hr' hne hn hn'
  have side : ∀ j y q,get (set hp nx x) j = some y → (m.withRow w' nx ri).ρ j = some q → q.isNil = false → (j = nx ∧ q = ri) ∨ (j ≠ nx ∧ get hp j = some y ∧ m.ρ j = some q ∧ q.b < m.w.heap.size):=by
   intro j y q hy hq hqn
   rw [get_set] at hy
   have hq' : (if j = nx then some ri else m.ρ j) = some q:=hq
   by_cases e : nx = j
   ·subst e
    rw [if_pos rfl] at hq'
    injection hq' with hq'
    exact .inl ⟨rfl,hq'.symm⟩
   ·rw [if_neg e] at hy
    rw [if_neg (fun h=>e h.symm)] at hq'
    obtain ⟨r2,h1,h2⟩:=hH.blk j y hy
    rw [hq'] at h1
    injection h1 with h1
    subst h1
    exact .inr ⟨fun h=>e h.symm,hy,hq',h2.lt hqn⟩
  rcases side id y r0 hx hr hn with ⟨a1,a2⟩ | ⟨a1,a2,a3,a4⟩
  ·rcases side id' y' r1 hx' hr' hn' with ⟨b1,b2⟩ | ⟨b1,b2,b3,b4⟩
   ·exact absurd (a1.trans b1.symm) hne
   ·have:=hnew (a2 ▸ hn)
    rw [a2]
    omega
  ·rcases side id' y' r1 hx' hr' hn' with ⟨b1,b2⟩ | ⟨b1,b2,b3,b4⟩
   ·have:=hnew (b2 ▸ hn')
    rw [b2]
    omega
   ·exact hH.apart id id' y y' r0 r1 a2 b2 a3 b3 hne hn hn'
 ·intro id hid
  show (if id = nx then some ri else m.ρ id) = none
  rw [if_neg (by omega)]
  exact hH.fresh id (by omega)
end
section
variable {P : Program} {ds : List (Option Tmp)} {σ : St} {o : Oper} {K : St → Prop} {Kp : AV → St → Prop} {ob ob' : Prop} {f : FuncId} {ys xs : List AV} {l : List Int} {len : Nat}
theorem SemStep.callL (h : acall σ o.op = some (ob,f,ys)) (hob : ob) (hd : dstOk σ.n o.dst = true) (hx : mapO (shr true (frzs σ.hp (ys.flatMap (rids σ.hp 9))) 9) ys = some (ob',xs)) (hob' : ob')
  (hc : FnH P σ.gl f xs [] 0 fun r h n=>r = .ret (.row 0 0 len) ∧ h = [(0,.row 1 (intsAV l) true)] ∧ n = 1)
  (hK : K (St.put ⟨σ.n,σ.env,set σ.hp σ.nx (.row 1 (intsAV l) true),σ.nx + 1,σ.gl,σ.np,σ.df⟩ o.dst (.row σ.nx 0 len))) : SemStep P σ o K Kp:=by
 intro m a N Q hS hN hQ
 obtain ⟨vs,hexec,hvs⟩:=acall_sound hS h hob
 unfold Oper.wp
 rw [hexec,hc.enters,Oper.upon_enter]
 obtain ⟨m1,e1,eρ,l1,k1,H1⟩:=frzs_sound (ys.flatMap (rids σ.hp 9)) hS.h
 have hS1:=hS.of k1 H1
 have hin : KF m1 m1.inner:=⟨fun _ _ h=>h,fun _ _ _=>rfl⟩
 have hKP : KP m1 m1.inner:=⟨fun b hb=>H1.Pold b hb,fun _ _=>rfl⟩
 have hargs : RepL m1.inner 1 xs vs:=by
  have:=mapO_sound (m:=m1) (m':=m1.inner) (k:=1) (f:=shr true (frzs σ.hp (ys.flatMap (rids σ.hp 9))) 9)
   (fun x y v ob h hob hv=>by simpa using shr_sound H1 true hin rfl (fun _ b hb=>hb) 9 x y v ob h hob hv) hx hob' (RepL.mono k1 0 _ _ hvs)
  exact this
 have hstart : StartH m1.inner σ.gl [] 0:=⟨⟨fun id x h=>by simp [Aw.get] at h,fun id id' x x' _ _ h=>by simp [Aw.get] at h,fun _ _=>rfl,H1.Fold,fun _ hb=>hb⟩,fun g x hg=>Rep.monoK hin 1 (fun _=>hKP) (Nat.le_refl 1) _ _ (hS1.gl g x hg),rfl⟩
 have hcall:=hc.calls m1.inner vs hstart (hargs.down (Nat.zero_le 1))
 have e2 : m1.inner.w = m.w:=e1
 rw [e2] at hcall
 refine hcall.mono ?_
 rintro e w' ⟨m',r,hp',nx',rfl,hle,hH',hend,rfl,rfl,rfl⟩
 obtain ⟨v,rfl,hv⟩:=hend
 simp only [Rep] at hv
 obtain ⟨_,ri,hρ,hrow⟩:=hv
 obtain ⟨ri',hρ',hblk⟩:=hH'.blk 0 _ rfl
 rw [hρ] at hρ'
 injection hρ' with hρ'
 subst hρ'
 have hPr : ∀ b,b < m.w.heap.size → m'.Pr b:=fun b hb=>by
  rw [hle.Pr]
  show b < m1.w.heap.size
  rw [e1]
  exact hb
 have old : ∀ b,b < m.w.heap.size → m'.w.heap[b]? = m.w.heap[b]?:=fun b hb=>by
  rw [hle.block b (by rw [← hle.Pr]; exact hPr b hb),e2]
 have hsz : m.w.heap.size ≤ m'.w.heap.size:=by have:=hle.size; rw [e2] at this; exact this
 have hnew : ri.isNil = false → m.w.heap.size ≤ ri.b:=fun hn=>by
  rcases Nat.lt_or_ge ri.b m.w.heap.size with g | g
  ·exact absurd (hPr _ g) (by
    rcases hblk with ⟨h1,_⟩ | ⟨_,h2,_⟩
    ·rw [hn] at h1; cases h1
    ·exact h2)
  ·exact g
 have hk:=withRow_keeps (ri:=ri) hS.h old
 have hl:=withRow_le (ri:=ri) hS.h old hsz (by have:=hle.os; rw [e2] at this; exact this) (by have:=hle.tape; rw [e2] at this; exact this) (by have:=hle.output; rw [e2] at this; exact this)
 have hH : SimH (m.withRow m'.w σ.nx ri) (set σ.hp σ.nx (.row 1 (intsAV l) true)) (σ.nx + 1):=by
  refine withRow_simH hS.h old hsz hnew ?_
  rcases hblk with hb | ⟨g1,g2,g3,g4,g5,g6⟩
  ·exact .inl hb
  ·refine .inr ⟨g1,fun hp=>g2 (hPr _ (hS.h.Pold _ hp)),g3,g4,g5,?_⟩
   rw [if_pos rfl] at g6 ⊢
   refine ⟨?_,fun i _ hf=>absurd (hS.h.Fold _ _ hf) (by have:=hnew g1; omega)⟩
   rw [g3.2] at g6 ⊢
   exact RepY.ints (m:=m') (M:=m.withRow m'.w σ.nx ri) rfl g6.1
 have hrep : Rep (m.withRow m'.w σ.nx ri) 0 (.row σ.nx 0 len) v:=by
  simp only [Rep]
  exact ⟨trivial,ri,if_pos rfl,hrow⟩
 exact hN (m.withRow m'.w σ.nx ri) _ _ hl hk (hS.put hk hH hd hrep) (.eff (acall_isEff h) (acall_notA h)) .put hK
theorem awGuard.cL (hc : FnH P σ.gl f xs [] 0 fun r h n=>r = .ret (.row 0 0 len) ∧ h = [(0,.row 1 (intsAV l) true)] ∧ n = 1)
  (hK : K (St.put ⟨σ.n,σ.env,set σ.hp σ.nx (.row 1 (intsAV l) true),σ.nx + 1,σ.gl,σ.np,σ.df⟩ o.dst (.row σ.nx 0 len))) (hg : o.guard = none:=by exact rfl)
  (h : acall σ o.op = some (ob,f,ys):=by (simp only [go_sem,seval]; iterate 2 try (simp (disch:=omega) only [zq]; try simp only [go_sem,seval])); exact rfl) (hx : mapO (shr true (frzs σ.hp (ys.flatMap (rids σ.hp 9))) 9) ys = some (ob',xs):=by (simp only [go_sem,seval]; iterate 2 try (simp (disch:=omega) only [zq]; try simp only [go_sem,seval])); exact rfl) (hd : dstOk σ.n o.dst = true:=by (simp only [go_sem,seval]; iterate 2 try (simp (disch:=omega) only [zq]; try simp only [go_sem,seval]))) (hob : ob:=by ((try (simp only [go_sem,seval]; iterate 2 try (simp (disch:=omega) only [zq]; try simp only [go_sem,seval]))); try (first | exact True.intro | omega | (simp only [zb]; omega) | (simp; done) | (simp; omega) | (and_intros <;> first | assumption | omega | (simp; done) | (simp; omega))))) (hob' : ob':=by ((try (simp only [go_sem,seval]; iterate 2 try (simp (disch:=omega) only [zq]; try simp only [go_sem,seval]))); try (first | exact True.intro | omega | (simp only [zb]; omega) | (simp; done) | (simp; omega) | (and_intros <;> first | assumption | omega | (simp; done) | (simp; omega))))) : awGuard P ds o σ K Kp:=by
 unfold awGuard
 rw [hg]
 simp only
 unfold awStep
 rw [(acall_pure h).1,(acall_pure (P:=P) (g:=true) h).2]
 exact SemStep.callL h hob hd hx hob' hc hK
end
theorem AW.join {P : Program} {σ : St} {Q : AX → St → Prop} {x y : Code} (σ1 : St) (h : AW P x σ (andThen (fun σ'=>St.le σ1 σ') Q)) (hk : AW P y σ1 Q) : AW P (.seq x y) σ Q :=
 AW.seq (h.mono fun ax σ' hq=>by
  cases ax with
  | normal=>exact AW.pre hq hk
  | ret=>exact hq
  | exit id=>exact hq
  | panic z=>exact hq)
end Aw
