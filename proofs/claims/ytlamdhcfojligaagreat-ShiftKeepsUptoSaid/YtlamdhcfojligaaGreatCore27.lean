/- Rules of a calculus of walks: no condition of its own. -/
import Derived.Test.YtlamdhcfojligaaGreatCore26
namespace Aw
open Go
section
variable {κ ν : Type} [DecidableEq κ] {kind : TypeDesc} {VK : κ → Value} {K : κ → AV} {V : ν → AV} {P : Program} {ds : List (Option Tmp)} {σ : St} {o : Oper} {KK : St → Prop} {Kp : AV → St → Prop} {ob : Prop}
end
/-! a function value in a cell that it takes along -/
section
variable {P : Program} {ds : List (Option Tmp)} {σ : St} {o : Oper} {K : St → Prop} {Kp : AV → St → Prop} {ob ob' ob1 : Prop} {f : FuncId} {ys xs : List AV}
end
theorem awTree.fH {P : Program} {ops : Array Oper} {K : St → Prop} {Kp : AV → St → Prop} {σ : St} {o : Oper} {i : Nat} {t r : PT} (ho : nth ops.toList i = some o) (h : awGuard P (ops.toList.map (·.dst)) o σ (awTree P ops K Kp t) Kp) (hr : awTree P ops K Kp r σ) : awTree P ops K Kp (.fork i t r) σ:=⟨⟨o,nth_ops ho,h⟩,hr⟩
section
variable {P : Program} {ds : List (Option Tmp)} {σ : St} {o : Oper} {K : St → Prop} {Kp : AV → St → Prop} {ob ob' : Prop} {f : FuncId} {ys xs zs : List AV} {hp0 hp1 : List (Nat × ABlk)} {n1 : Nat}
theorem SemStep.callHm {R : AE → List (Nat × ABlk) → Nat → Prop} {L : List Nat} (h : acall σ o.op = some (ob,f,ys)) (hob : ob) (hd : dstOk σ.n o.dst = true)
  (hz : mapO (fz σ.hp 9) ys = some (ob',zs)) (hob' : ob') (hL : L.all (fun id=>(get σ.hp id).isSome) = true) (hnd : L.Nodup)
  (hhp : viewHp (Aw.pick L σ.nx) L.length σ.hp hp0) (hxs : renL (Aw.pick L σ.nx) xs = zs) (hc : FnH P σ.gl f xs hp0 L.length R)
  (hK : ∀ y hp' nx',R (.ret y) hp' nx' → (backOkm L hp' nx' && noT y) = true ∧ K (St.put (backSt σ L hp' nx') o.dst (ren (bk L σ.nx) y)))
  (hKp : ∀ y hp' nx',R (.panic y) hp' nx' → backOkm L hp' nx' = true ∧ Kp y (backSt σ L hp' nx')) : SemStep P σ o K Kp:=by
 intro m a N Q hS hN hQ
 obtain ⟨vs,hexec,hvs⟩:=acall_sound hS h hob
 unfold Oper.wp
 rw [hexec,hc.enters,Oper.upon_enter]
 have hL' : ∀ id ∈ L,(get σ.hp id).isSome = true:=fun id hid=>List.all_eq_true.1 hL id hid
 have hzs:=mapO_sound (m:=m) (m':=m) (k:=0) (f:=fz σ.hp 9) (fun x y v ob h hob hv=>fz_sound hS.h 9 x y v ob h hob hv) hz hob' hvs
 rw [← hxs] at hzs
 have hM:=innerH_map hS.h hL'
 have hargs : RepL (m.innerH L σ.nx) 0 xs vs:=by
  have:=RepL.map hM xs vs (RepL.ren xs vs hzs)
  rw [renL_id] at this
  exact this
 have hP : KP m (m.innerH L σ.nx):=⟨fun b hb=>hM.Pr b hb,fun _ _=>rfl⟩
 have hF : KF m (m.innerH L σ.nx):=⟨fun _ _ h=>h,fun _ _ _=>rfl⟩
 have hstart : StartH (m.innerH L σ.nx) σ.gl hp0 L.length:=⟨innerH_simH hS.h hL' hnd hhp,fun g x hg=>Rep.monoK hF 1 (fun _=>hP) (Nat.le_refl 1) _ _ (hS.gl g x hg),rfl⟩
 have hcall:=hc.calls (m.innerH L σ.nx) vs hstart hargs
 have e2 : (m.innerH L σ.nx).w = m.w:=rfl
 rw [e2] at hcall
 refine hcall.mono ?_
 rintro e w' ⟨m',r,hp',nx',rfl,hle,hH',hend,hR⟩
 have hk2:=outerH_keeps hS.h hL' hle
 have hl2:=outerH_le hS.h hL' hle
 cases r with
 | ret y =>
  obtain ⟨v,rfl,hv⟩:=hend
  obtain ⟨hb,hk⟩:=hK y hp' nx' hR
  simp only [backOkm,Bool.and_eq_true,decide_eq_true_eq] at hb
  have hH2:=outerH_simHm hS.h hL' hnd hle hH' hb.1.1 hb.1.2.1 hb.1.2.2
  exact hN (m.outerH m' L σ.nx) _ _ hl2 hk2 (hS.put hk2 hH2 hd (Rep.mapT (bk_mapF hS.h hL' hle) y v hb.2 hv)) (.eff (acall_isEff h) (acall_notA h)) .put hk
 | panic y =>
  obtain ⟨v,rfl,hv⟩:=hend
  obtain ⟨hb,hk⟩:=hKp y hp' nx' hR
  simp only [backOkm,Bool.and_eq_true,decide_eq_true_eq] at hb
  have hH2:=outerH_simHm hS.h hL' hnd hle hH' hb.1 hb.2.1 hb.2.2
  have hKF2 : KF m' (m.outerH m' L σ.nx):=⟨fun _ _ h=>h,fun _ _ _=>rfl⟩
  have hv2:=Rep.monoK hKF2 2 (fun h=>absurd h (by omega)) (by omega) _ _ hv
  exact hQ (m.outerH m' L σ.nx) _ y v hl2 hk2 (hS.of hk2 hH2) (Rep.down (Nat.zero_le 2) _ _ hv2) (fun _=>rfl) hk
theorem awGuard.cHm {y : AV} (L : List Nat) (hc : FnH P σ.gl f xs hp0 L.length fun r h n=>r = .ret y ∧ h = hp1 ∧ n = n1) (hK : K (St.put (backSt σ L hp1 n1) o.dst (ren (bk L σ.nx) y))) (hg : o.guard = none:=by exact rfl)
  (h : acall σ o.op = some (ob,f,ys):=by (simp only [go_sem,seval]; iterate 2 try (simp (disch:=omega) only [zq]; try simp only [go_sem,seval])); exact rfl) (hz : mapO (fz σ.hp 9) ys = some (ob',zs):=by (simp only [go_sem,seval]; iterate 2 try (simp (disch:=omega) only [zq]; try simp only [go_sem,seval])); exact rfl) (hd : dstOk σ.n o.dst = true:=by (simp only [go_sem,seval]; iterate 2 try (simp (disch:=omega) only [zq]; try simp only [go_sem,seval]))) (hL : L.all (fun id=>(get σ.hp id).isSome) = true:=by (simp only [go_sem,seval]; iterate 2 try (simp (disch:=omega) only [zq]; try simp only [go_sem,seval]))) (hnd : L.Nodup:=by decide)
  (hhp : viewHp (Aw.pick L σ.nx) L.length σ.hp hp0:=by (try (simp only [go_sem,seval]; iterate 2 try (simp (disch:=omega) only [zq]; try simp only [go_sem,seval]))) <;> (try (first | rfl | trivial | (and_intros <;> first | rfl | trivial)))) (hxs : renL (Aw.pick L σ.nx) xs = zs:=by (try (simp only [go_sem,seval]; iterate 2 try (simp (disch:=omega) only [zq]; try simp only [go_sem,seval]))) <;> (try rfl)) (hob : ob:=by ((try (simp only [go_sem,seval]; iterate 2 try (simp (disch:=omega) only [zq]; try simp only [go_sem,seval]))); try (first | exact True.intro | omega | (simp only [zb]; omega) | (simp; done) | (simp; omega) | (and_intros <;> first | assumption | omega | (simp; done) | (simp; omega))))) (hob' : ob':=by ((try (simp only [go_sem,seval]; iterate 2 try (simp (disch:=omega) only [zq]; try simp only [go_sem,seval]))); try (first | exact True.intro | omega | (simp only [zb]; omega) | (simp; done) | (simp; omega) | (and_intros <;> first | assumption | omega | (simp; done) | (simp; omega)))))
  (hb : (backOkm L hp1 n1 && noT y) = true:=by (simp only [go_sem,seval]; iterate 2 try (simp (disch:=omega) only [zq]; try simp only [go_sem,seval]))) : awGuard P ds o σ K Kp:=by
 unfold awGuard
 rw [hg]
 simp only
 unfold awStep
 rw [(acall_pure h).1,(acall_pure (P:=P) (g:=true) h).2]
 exact SemStep.callHm h hob hd hz hob' hL hnd hhp hxs hc (fun z _ _ ⟨h1,h2,h3⟩=>by cases h1; subst h2 h3; exact ⟨hb,hK⟩) (fun _ _ _ ⟨h1,_⟩=>by cases h1)
end
end Aw
