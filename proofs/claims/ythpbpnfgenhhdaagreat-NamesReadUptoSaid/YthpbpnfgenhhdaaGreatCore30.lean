/- Rules of a calculus of walks: no condition of its own. -/
import Derived.Test.YthpbpnfgenhhdaaGreatCore29
namespace Aw
open Go
section
variable {P : Program} {gl : List (Nat × AV)} {f : FuncId} {fn : Func} {c : Code} {xs : List AV} {hp : List (Nat × ABlk)} {nx : Nat} {Θ : Mem → Prop}
theorem simArgsU {m : Mem} {vs : List Value} {np : Nat} (hm : StartU m gl hp nx np) (hv : RepL m 0 xs vs) (hn : xs.length ≤ fn.ntmps) : Sim m { tmps:=vs.toArray ++ Array.replicate (fn.ntmps - vs.toArray.size) undef,defers:=[] } ⟨fn.ntmps,argEnv 0 xs,hp,nx,gl,np,[]⟩:=by
 have hlen:=hv.length
 refine ⟨hm.h,?_,rfl,?_,hm.gl,hm.np⟩
 ·simp only [Array.size_append,List.size_toArray,Array.size_replicate]
  omega
 ·intro t x ht
  obtain ⟨_,hx⟩:=get_argEnv ht
  have hlt : t < xs.length:=by
   rcases Nat.lt_or_ge t xs.length with h | h
   ·exact h
   ·rw [List.getElem?_eq_none (by omega)] at hx; cases hx
  refine ⟨Nat.lt_of_lt_of_le hlt hn,?_⟩
  obtain ⟨v,hv1,hv2⟩:=hv.at t hlt
  have hx' : xs[t] = x:=by
   rw [Nat.sub_zero,List.getElem?_eq_getElem hlt] at hx
   exact Option.some.inj hx
  have : (vs.toArray ++ Array.replicate (fn.ntmps - vs.toArray.size) undef).getD t undef = v:=by
   rw [Array.getD_eq_getD_getElem?,Array.getElem?_append_left (by simp; omega)]
   simp [hv1]
  rw [this,← hx']
  exact hv2
theorem FnU.intro {np : Nat} {R : AE → List (Nat × ABlk) → Nat → Prop} (hf : P.funcs[f]? = some fn) (hname : (fn.name == "runtime.NumGoroutine") = false) (hb : fn.body = some c) (hn : xs.length ≤ fn.ntmps)
  (hT : ∀ q hp' nx',R q hp' nx' → noTHm hp' = true ∧ ∃ x,q = .ret x ∧ noT x = true)
  (h : ∀ B,AWT B none Θ P c ⟨fn.ntmps,argEnv 0 xs,hp,nx,gl,np,[]⟩ (finH P fn.results.toList R)) : FnU Θ P gl f xs hp nx np R:=by
 refine ⟨enters_of hf hname hb,fun m vs hm ht hv=>?_⟩
 refine callsIn_wide.1 (callsIn_of_wp_marks (F:=Fence.wide) (n:=0) hf hb trivial ?_)
 have hS:=SimT.start (simArgsU (fn:=fn) hm hv hn) rfl
 refine wpB.wide (wpB_mono (h ⟨m.w.heap.size,[],none⟩ m _ hS ht) ?_)
 rintro e a' w' ⟨m',σ',ax,rfl,hle,hS',hex,hq⟩
 have key : ∀ u,u ≠ .run → (∀ m2 : Mem,m.leT m2 → Sim m2 { a' with defers:=[] } σ' → LeavesIn Fence.wide 0 P fn a'.tmps (fun e w'=>∃ m' r hp' nx',m'.w = w' ∧ m.le m' ∧ SimH m' hp' nx' ∧ endOkH m' r e ∧ R r hp' nx') [] u m2.w) →
   LeavesInM Fence.wide 0 P fn a'.tmps (fun e w'=>∃ m' r hp' nx',m'.w = w' ∧ m.le m' ∧ SimH m' hp' nx' ∧ endOkH m' r e ∧ R r hp' nx') a'.defers u m'.w:=by
  intro u hu hend
  refine leavesM (B:=m.w.heap.size) (fun m2=>m.leT m2 ∧ Sim m2 { a' with defers:=[] } σ') ?_ (fun m2 h2=>hend m2 h2.1 h2.2) hu a'.defers m' hS'.marks ⟨hle,hS'.s⟩
  rintro m2 D ⟨h1,h2⟩ hD hB hh
  refine ⟨h1.turn (fun hP=>?_) hh rfl rfl,h2.turn hD hh rfl rfl⟩
  have:=hm.h.Pold D hP
  omega
 have ret : finHRet P fn.results.toList R σ' → LeavesInM Fence.wide 0 P fn a'.tmps (fun e w'=>∃ m' r hp' nx',m'.w = w' ∧ m.le m' ∧ SimH m' hp' nx' ∧ endOkH m' r e ∧ R r hp' nx') a'.defers .returning m'.w:=by
  intro hq
  refine key .returning (by simp) fun m2 h1 h2=>?_
  obtain ⟨_,v,hrun,m3,q,hp',nx',e3,l3,s3,en3,r3⟩:=finHRet_sound h2 (.refl m2) hq
  refine ⟨v,hrun,m3.shrink m,q,hp',nx',e3,shrink_le (h1.trans l3.t),shrink_simH (h1.trans l3.t) s3 (hT _ _ _ r3).1,?_,r3⟩
  obtain ⟨_,x,rfl,hx⟩:=hT _ _ _ r3
  obtain ⟨v',h1,h2⟩:=en3
  exact ⟨v',h1,shrink_rep hx h2⟩
 cases ax with
 | normal =>
  simp only [exOk] at hex
  subst hex
  exact ret hq
 | ret =>
  simp only [exOk] at hex
  subst hex
  exact ret hq
 | exit id=>exact hq.elim
 | panic x =>
  exfalso
  have hq' : finHPanic R x σ':=hq
  unfold finHPanic at hq'
  split at hq'
  ·exact hq'
  ·obtain ⟨_,_,h,_⟩:=hT _ _ _ hq'.2
   cases h
end
mutual
def small (n : Nat) : AV → Bool
 | .agg cs=>smallL n cs
 | .tup cs=>smallL n cs
 | .clos _ cs=>smallL n cs
 | .row id _ _=>decide (id < n)
 | .ptr id _=>decide (id < n)
 | .rptr id _ _=>decide (id < n)
 | .map id=>decide (id < n)
 | .iface _ x=>small n x
 | .ite _ x y=>small n x && small n y
 | .opt _ x=>small n x
 | _=>true
def smallL (n : Nat) : List AV → Bool
 | []=>true
 | x :: xs=>small n x && smallL n xs
end
structure KS (n : Nat) (m m' : Mem) : Prop where
 Pr : ∀ b,m.Pr b → m'.Pr b
 block : ∀ b,m.Pr b → m'.w.heap[b]? = m.w.heap[b]?
 F : ∀ b o,m.F b o → m'.F b o
 cell : ∀ b o,m.F b o → m'.w.cell? ⟨b,o,none⟩ = m.w.cell? ⟨b,o,none⟩
 ρ : ∀ id ri,id < n → m.ρ id = some ri → m'.ρ id = some ri
theorem KS.kf {n : Nat} {m m' : Mem} (h : KS n m m') : KF m m':=⟨h.F,h.cell⟩
theorem KS.kp {n : Nat} {m m' : Mem} (h : KS n m m') : KP m m':=⟨h.Pr,h.block⟩
mutual
theorem Rep.monoS {n : Nat} {m m' : Mem} (h : KS n m m') : ∀ (x : AV) (v : Value),small n x = true → Rep m 0 x v → Rep m' 0 x v
 | .bool _,_,_,hx=>by simpa only [Rep] using hx
 | .int _ _,_,_,hx=>by simpa only [Rep] using hx
 | .str _,_,_,hx=>by simpa only [Rep] using hx
 | .agg cs,v,hs,hx=>by
  simp only [small] at hs
  simp only [Rep] at hx ⊢
  obtain ⟨vs,rfl,hl⟩:=hx
  exact ⟨vs,rfl,RepL.monoS h cs _ hs hl⟩
 | .tup cs,v,hs,hx=>by
  simp only [small] at hs
  simp only [Rep] at hx ⊢
  obtain ⟨vs,rfl,hl⟩:=hx
  exact ⟨vs,rfl,RepL.monoS h cs _ hs hl⟩
 | .sl es,v,_,hx=>by
  have:=Rep.monoK h.kf 1 (fun _=>h.kp) (Nat.le_refl 1) (.sl es) v (by simpa only [Rep] using hx)
  simpa only [Rep] using this
 | .row id off len,v,hs,hx=>by
  simp only [small,decide_eq_true_eq] at hs
  simp only [Rep] at hx ⊢
  obtain ⟨hk,ri,hr,hv⟩:=hx
  exact ⟨hk,ri,h.ρ id ri hs hr,hv⟩
 | .ptr id off,v,hs,hx=>by
  simp only [small,decide_eq_true_eq] at hs
  simp only [Rep] at hx ⊢
  obtain ⟨hk,ri,hr,hv⟩:=hx
  exact ⟨hk,ri,h.ρ id ri hs hr,hv⟩
 | .rptr id idx c,v,hs,hx=>by
  simp only [small,decide_eq_true_eq] at hs
  simp only [Rep] at hx ⊢
  obtain ⟨hk,ri,hr,hv⟩:=hx
  exact ⟨hk,ri,h.ρ id ri hs hr,hv⟩
 | .cptr cs,v,_,hx=>by
  have:=Rep.monoK h.kf 1 (fun _=>h.kp) (Nat.le_refl 1) (.cptr cs) v (by simpa only [Rep] using hx)
  simpa only [Rep] using this
 | .tptr cs,v,_,hx=>by
  have:=Rep.monoK h.kf 1 (fun _=>h.kp) (Nat.le_refl 1) (.tptr cs) v (by simp only [Rep] at hx ⊢; exact ⟨Nat.le_refl 1,hx.2⟩)
  simp only [Rep] at this ⊢
  exact ⟨Nat.zero_le 1,this.2⟩
 | .clos f caps,v,hs,hx=>by
  simp only [small] at hs
  simp only [Rep] at hx ⊢
  obtain ⟨vs,rfl,hl⟩:=hx
  exact ⟨vs,rfl,RepL.monoS h caps _ hs hl⟩
 | .iface t x,v,hs,hx=>by
  simp only [small] at hs
  simp only [Rep] at hx ⊢
  obtain ⟨u,rfl,hu⟩:=hx
  exact ⟨u,rfl,Rep.monoS h x u hs hu⟩
 | .ite c x y,v,hs,hx=>by
  simp only [small,Bool.and_eq_true] at hs
  simp only [Rep] at hx ⊢
  exact ⟨fun hc=>Rep.monoS h x v hs.1 (hx.1 hc),fun hc=>Rep.monoS h y v hs.2 (hx.2 hc)⟩
 | .opt c x,v,hs,hx=>by
  simp only [small] at hs
  simp only [Rep] at hx ⊢
  exact ⟨fun hc=>Rep.monoS h x v hs (hx.1 hc),hx.2⟩
 | .map id,v,hs,hx=>by
  simp only [small,decide_eq_true_eq] at hs
  simp only [Rep] at hx ⊢
  obtain ⟨hk,ri,hr,hv⟩:=hx
  exact ⟨hk,ri,h.ρ id ri hs hr,hv⟩
 | .cmap ks vs,v,_,hx=>by
  have:=Rep.monoK h.kf 1 (fun _=>h.kp) (Nat.le_refl 1) (.cmap ks vs) v (by simp only [Rep] at hx ⊢; exact ⟨Nat.le_refl 1,hx.2⟩)
  simp only [Rep] at this ⊢
  exact ⟨Nat.zero_le 1,this.2⟩
 | .raw _,_,_,hx=>by simpa only [Rep] using hx
 | .top,_,_,_=>by simp only [Rep]
theorem RepL.monoS {n : Nat} {m m' : Mem} (h : KS n m m') : ∀ (xs : List AV) (vs : List Value),smallL n xs = true → RepL m 0 xs vs → RepL m' 0 xs vs
 | [],_,_,hx=>by simpa only [RepL] using hx
 | x :: xs,vs,hs,hx=>by
  simp only [smallL,Bool.and_eq_true] at hs
  simp only [RepL] at hx ⊢
  obtain ⟨v,rest,rfl,hv,hr⟩:=hx
  exact ⟨v,rest,rfl,Rep.monoS h x v hs.1 hv,RepL.monoS h xs rest hs.2 hr⟩
end
end Aw
