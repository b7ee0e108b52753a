/- Rules of a calculus of walks: no condition of its own. -/
import Derived.Test.YtboaclfnjdhcpaaDoorCore30
namespace Aw
open Go
structure FnK (P : Program) (gl : List (Nat × AV)) (f : FuncId) (xs : List AV) (hp : List (Nat × ABlk)) (nx np : Nat) (R : AE → List (Nat × ABlk) → Nat → Prop) : Prop where
 enters : enters P f
 calls : ∀ m vs,StartU m gl hp nx np → RepL m 0 xs vs → Calls P f vs.toArray m.w fun e w'=>∃ m' r hp' nx',m'.w = w' ∧ m.le m' ∧ SimH m' hp' nx' ∧ endOkH m' r e ∧ R r hp' nx'
theorem FnK.mono {P : Program} {gl : List (Nat × AV)} {f : FuncId} {xs : List AV} {hp : List (Nat × ABlk)} {nx np : Nat} {R R' : AE → List (Nat × ABlk) → Nat → Prop} (h : FnK P gl f xs hp nx np R) (hr : ∀ r hp nx,R r hp nx → R' r hp nx) : FnK P gl f xs hp nx np R' :=
 ⟨h.enters,fun m vs hm hv=>(h.calls m vs hm hv).mono fun _ _ ⟨m',r,hp',nx',h1,h2,h3,h4,h5⟩=>⟨m',r,hp',nx',h1,h2,h3,h4,hr r _ _ h5⟩⟩
theorem SimH.none {m : Mem} {hp : List (Nat × ABlk)} {nx : Nat} (h : SimH m hp nx) : SimH m [] nx :=
 ⟨fun _ _ hx=>by simp [get] at hx,fun _ _ _ _ _ _ hx=>by simp [get] at hx,h.fresh,h.Fold,h.Pold⟩
theorem FnK.intro {P : Program} {gl : List (Nat × AV)} {f : FuncId} {fn : Func} {c : Code} {xs : List AV} {hp : List (Nat × ABlk)} {nx np : Nat} {R : AE → List (Nat × ABlk) → Nat → Prop} (hf : P.funcs[f]? = some fn) (hname : (fn.name == "runtime.NumGoroutine") = false)
  (hb : fn.body = some c) (hn : xs.length ≤ fn.ntmps) (h : AW P c ⟨fn.ntmps,argEnv 0 xs,hp,nx,gl,np,[]⟩ (finH P fn.results.toList R)) : FnK P gl f xs hp nx np R:=by
 refine ⟨enters_of hf hname hb,fun m vs hm hv=>?_⟩
 refine calls_of_wp hf hb ?_
 have hS:=simArgsU (fn:=fn) hm hv hn
 refine wp_mono (h m _ hS) ?_
 rintro e a' w' ⟨m',σ',ax,rfl,hle,hS',hex,hq⟩
 cases ax with
 | normal =>
  simp only [exOk] at hex
  subst hex
  exact finHRet_sound hS' hle hq
 | ret =>
  simp only [exOk] at hex
  subst hex
  exact finHRet_sound hS' hle hq
 | exit id=>exact hq.elim
 | panic x =>
  simp only [exOk] at hex
  obtain ⟨v,rfl,hv⟩:=hex
  exact finHPanic_sound hS' hle hv hq
section
variable {P : Program} {ds : List (Option Tmp)} {σ : St} {o : Oper} {K : St → Prop} {Kp : AV → St → Prop} {ob ob' : Prop} {f : FuncId} {ys xs zs : List AV} {hp0 hp1 : List (Nat × ABlk)} {n1 : Nat}
theorem SemStep.callK {R : AE → List (Nat × ABlk) → Nat → Prop} {L : List Nat} {np : Nat} (h : acall σ o.op = some (ob,f,ys)) (hob : ob) (hd : dstOk σ.n o.dst = true)
  (hz : mapO (fz σ.hp 9) ys = some (ob',zs)) (hob' : ob') (hL : L.all (fun id=>(get σ.hp id).isSome) = true) (hnd : L.Nodup) (hl : np ≤ L.length)
  (hhp : viewHp (Aw.pick L σ.nx) L.length σ.hp hp0) (hxs : renL (Aw.pick L σ.nx) xs = zs) (hc : FnK P σ.gl f xs hp0 L.length np R)
  (hK : ∀ y hp' nx',R (.ret y) hp' nx' → (backOku np hp' nx' && noT y) = true ∧ K (St.put (backU σ L np hp' nx') o.dst (ren (bk (L.take np) σ.nx) y)))
  (hKp : ∀ y hp' nx',R (.panic y) hp' nx' → np ≤ nx' ∧ Kp y (backU σ L np [] nx')) : SemStep P σ o K Kp:=by
 intro m a N Q hS hN hQ
 obtain ⟨vs,hexec,hvs⟩:=acall_sound hS h hob
 unfold Oper.wp
 rw [hexec,hc.enters,Oper.upon_enter]
 have hL' : ∀ id ∈ L,(get σ.hp id).isSome = true:=fun id hid=>List.all_eq_true.1 hL id hid
 obtain ⟨hstart,hargs⟩:=innerStartU hS hvs hz hob' hL' hnd hhp hxs hl
 have hcall:=hc.calls (m.innerU L σ.nx np) vs hstart hargs
 have e2 : (m.innerU L σ.nx np).w = m.w:=rfl
 rw [e2] at hcall
 refine hcall.mono ?_
 rintro e w' ⟨m',r,hp',nx',rfl,hle,hH',hend,hR⟩
 have hk2:=outerU_keeps hS.h hL' hle
 have hl2:=outerU_le hS.h hL' hle
 cases r with
 | ret y =>
  obtain ⟨v,rfl,hv⟩:=hend
  obtain ⟨hb,hk⟩:=hK y hp' nx' hR
  simp only [backOku,Bool.and_eq_true,decide_eq_true_eq] at hb
  have hH2:=outerU_simH hl hS.h hL' hle hH' hb.1.1 hb.1.2.1 hb.1.2.2
  exact hN (m.outerH m' (L.take np) σ.nx) _ _ hl2 hk2 (hS.put hk2 hH2 hd (Rep.mapT (bkU_mapF hl hS.h hL' hle) y v hb.2 hv)) (.eff (acall_isEff h) (acall_notA h)) .put hk
 | panic y =>
  obtain ⟨v,rfl,hv⟩:=hend
  obtain ⟨hb,hk⟩:=hKp y hp' nx' hR
  have hH2:=outerU_simH hl hS.h hL' hle hH'.none rfl rfl hb
  have hKF2 : KF m' (m.outerH m' (L.take np) σ.nx):=⟨fun _ _ h=>h,fun _ _ _=>rfl⟩
  have hv2:=Rep.monoK hKF2 2 (fun h=>absurd h (by omega)) (by omega) _ _ hv
  exact hQ (m.outerH m' (L.take np) σ.nx) _ y v hl2 hk2 (hS.of hk2 hH2) (Rep.down (Nat.zero_le 2) _ _ hv2) (fun _=>rfl) hk
theorem awGuard.cK {y : AV} (np : Nat) (L : List Nat) (hc : FnK P σ.gl f xs hp0 L.length np fun r h n=>r = .ret y ∧ h = hp1 ∧ n = n1) (hK : K (St.put (backU σ L np hp1 n1) o.dst (ren (bk (L.take np) σ.nx) y))) (hg : o.guard = none:=by exact rfl)
  (h : acall σ o.op = some (ob,f,ys):=by (simp only [go_sem,seval]; iterate 2 try (simp (disch:=omega) only [zq]; try simp only [go_sem,seval])); exact rfl) (hz : mapO (fz σ.hp 9) ys = some (ob',zs):=by (simp only [go_sem,seval]; iterate 2 try (simp (disch:=omega) only [zq]; try simp only [go_sem,seval])); exact rfl) (hd : dstOk σ.n o.dst = true:=by (simp only [go_sem,seval]; iterate 2 try (simp (disch:=omega) only [zq]; try simp only [go_sem,seval]))) (hL : L.all (fun id=>(get σ.hp id).isSome) = true:=by (simp only [go_sem,seval]; iterate 2 try (simp (disch:=omega) only [zq]; try simp only [go_sem,seval]))) (hnd : L.Nodup:=by decide) (hl : np ≤ L.length:=by decide)
  (hhp : viewHp (Aw.pick L σ.nx) L.length σ.hp hp0:=by (try (simp only [go_sem,seval]; iterate 2 try (simp (disch:=omega) only [zq]; try simp only [go_sem,seval]))) <;> (try (first | rfl | trivial | (and_intros <;> first | rfl | trivial)))) (hxs : renL (Aw.pick L σ.nx) xs = zs:=by (try (simp only [go_sem,seval]; iterate 2 try (simp (disch:=omega) only [zq]; try simp only [go_sem,seval]))) <;> (try rfl)) (hob : ob:=by ((try (simp only [go_sem,seval]; iterate 2 try (simp (disch:=omega) only [zq]; try simp only [go_sem,seval]))); try (first | exact True.intro | omega | (simp only [zb]; omega) | (simp; done) | (simp; omega) | (and_intros <;> first | assumption | omega | (simp; done) | (simp; omega))))) (hob' : ob':=by ((try (simp only [go_sem,seval]; iterate 2 try (simp (disch:=omega) only [zq]; try simp only [go_sem,seval]))); try (first | exact True.intro | omega | (simp only [zb]; omega) | (simp; done) | (simp; omega) | (and_intros <;> first | assumption | omega | (simp; done) | (simp; omega)))))
  (hb : (backOku np hp1 n1 && noT y) = true:=by (simp only [go_sem,seval]; iterate 2 try (simp (disch:=omega) only [zq]; try simp only [go_sem,seval]))) : awGuard P ds o σ K Kp:=by
 unfold awGuard
 rw [hg]
 simp only
 unfold awStep
 rw [(acall_pure h).1,(acall_pure (P:=P) (g:=true) h).2]
 exact SemStep.callK h hob hd hz hob' hL hnd hl hhp hxs hc (fun z _ _ ⟨h1,h2,h3⟩=>by cases h1; subst h2 h3; exact ⟨hb,hK⟩) (fun _ _ _ ⟨h1,_⟩=>by cases h1)
theorem awGuard.cKM {y z : AV} {c : Prop} (np : Nat) (L : List Nat) (hc : FnK P σ.gl f xs hp0 L.length np fun r h n=>(c ∧ r = .ret y ∧ h = hp1 ∧ n = n1) ∨ (¬ c ∧ r = .panic z ∧ np ≤ n)) (hKp : ¬ c → ∀ n,np ≤ n → Kp z (backU σ L np [] n)) (hK : c → K (St.put (backU σ L np hp1 n1) o.dst (ren (bk (L.take np) σ.nx) y))) (hg : o.guard = none:=by exact rfl)
  (h : acall σ o.op = some (ob,f,ys):=by (simp only [go_sem,seval]; iterate 2 try (simp (disch:=omega) only [zq]; try simp only [go_sem,seval])); exact rfl) (hz : mapO (fz σ.hp 9) ys = some (ob',zs):=by (simp only [go_sem,seval]; iterate 2 try (simp (disch:=omega) only [zq]; try simp only [go_sem,seval])); exact rfl) (hd : dstOk σ.n o.dst = true:=by (simp only [go_sem,seval]; iterate 2 try (simp (disch:=omega) only [zq]; try simp only [go_sem,seval]))) (hL : L.all (fun id=>(get σ.hp id).isSome) = true:=by (simp only [go_sem,seval]; iterate 2 try (simp (disch:=omega) only [zq]; try simp only [go_sem,seval]))) (hnd : L.Nodup:=by decide) (hl : np ≤ L.length:=by decide)
  (hhp : viewHp (Aw.pick L σ.nx) L.length σ.hp hp0:=by (try (simp only [go_sem,seval]; iterate 2 try (simp (disch:=omega) only [zq]; try simp only [go_sem,seval]))) <;> (try (first | rfl | trivial | (and_intros <;> first | rfl | trivial)))) (hxs : renL (Aw.pick L σ.nx) xs = zs:=by (try (simp only [go_sem,seval]; iterate 2 try (simp (disch:=omega) only [zq]; try simp only [go_sem,seval]))) <;> (try rfl)) (hob : ob:=by ((try (simp only [go_sem,seval]; iterate 2 try (simp (disch:=omega) only [zq]; try simp only [go_sem,seval]))); try (first | exact True.intro | omega | (simp only [zb]; omega) | (simp; done) | (simp; omega) | (and_intros <;> first | assumption | omega | (simp; done) | (simp; omega))))) (hob' : ob':=by ((try (simp only [go_sem,seval]; iterate 2 try (simp (disch:=omega) only [zq]; try simp only [go_sem,seval]))); try (first | exact True.intro | omega | (simp only [zb]; omega) | (simp; done) | (simp; omega) | (and_intros <;> first | assumption | omega | (simp; done) | (simp; omega)))))
  (hb : (backOku np hp1 n1 && noT y) = true:=by (simp only [go_sem,seval]; iterate 2 try (simp (disch:=omega) only [zq]; try simp only [go_sem,seval]))) : awGuard P ds o σ K Kp:=by
 unfold awGuard
 rw [hg]
 simp only
 unfold awStep
 rw [(acall_pure h).1,(acall_pure (P:=P) (g:=true) h).2]
 refine SemStep.callK h hob hd hz hob' hL hnd hl hhp hxs hc (fun y' hp' nx' hr=>?_) (fun y' hp' nx' hr=>?_)
 ·rcases hr with ⟨hc',h1,h2,h3⟩ | ⟨_,h1,_⟩
  ·cases h1; subst h2 h3; exact ⟨hb,hK hc'⟩
  ·cases h1
 ·rcases hr with ⟨_,h1,_⟩ | ⟨hc',h1,h2⟩
  ·cases h1
  ·cases h1; exact ⟨h2,hKp hc' _ h2⟩
end
end Aw
