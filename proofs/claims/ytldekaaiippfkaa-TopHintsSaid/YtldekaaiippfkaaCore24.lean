/- Rules of a calculus of walks: no condition of its own. -/
import Derived.Test.YtldekaaiippfkaaCore23
namespace Aw
open Go

/-- 'M0': the memory at the loop's entry: what was protected there is as it was -/
structure Kept (M0 m : Mem) : Prop where
 k : M0.keeps m
 fresh : ∀ id, M0.np ≤ id → M0.ρ id = none
instance {M0 : Mem} : Lasts (Kept M0) := ⟨fun {m m'} hl h => ⟨⟨hl.np.trans h.k.np, fun b hb => hl.Pr b (h.k.Pr b hb), fun b hb => (hl.block b (h.k.Pr b hb)).trans (h.k.block b hb), fun b o hf => hl.F b o (h.k.F b o hf),
 fun b o hf => (hl.cell b o (h.k.F b o hf)).trans (h.k.cell b o hf), fun id ri hr => hl.pin id ri (by
  rcases Nat.lt_or_ge id M0.np with h1 | h1
  ·rw [h.k.np]; exact h1
  ·rw [h.fresh id h1] at hr; cases hr) (h.k.ρ id ri hr)⟩, h.fresh⟩⟩
theorem pick_range {n nx i : Nat} (h : i < n) : pick (List.range n) nx i = i := by
 unfold pick
 rw [nth_eq]
 simp [h]
theorem Kept.inner {M0 m : Mem} {hp : List (Nat × ABlk)} {nx n : Nat} (h : Kept M0 m) (hH : SimH m hp nx) (hL : ∀ id ∈ List.range n, (get hp id).isSome = true) (hn : m.np = n) : Kept M0 (m.innerH (List.range n) nx) where
 k := ⟨by rw [← h.k.np, hn]; simp [Mem.innerH], fun b hb => (innerH_map hH hL).Pr b (h.k.Pr b hb), h.k.block, h.k.F, h.k.cell, fun id ri hr => by
  have hlt : id < n := by
   rcases Nat.lt_or_ge id M0.np with h1 | h1
   ·rw [← hn, h.k.np]; exact h1
   ·rw [h.fresh id h1] at hr; cases hr
  show m.ρ (pick (List.range n) nx id) = some ri
  rw [pick_range hlt]
  exact h.k.ρ id ri hr⟩
 fresh := h.fresh

class LastsIn (Θ : Mem → Prop) : Prop extends Lasts Θ where
 inner : ∀ {m : Mem} {hp : List (Nat × ABlk)} {nx n : Nat}, Θ m → SimH m hp nx → (∀ id ∈ List.range n, (get hp id).isSome = true) → m.np = n → Θ (m.innerH (List.range n) nx)
instance {M0 : Mem} : LastsIn (Kept M0) := ⟨fun h hH hL hn => h.inner hH hL hn⟩
theorem LastsIn.at {Θ : Mem → Prop} [LastsIn Θ] {σ : St} {L : List Nat} (hL : L.all (fun id => (get σ.hp id).isSome) = true) (hn : L = List.range σ.np) : ∀ m a, Sim m a σ → Θ m → Θ (m.innerH L σ.nx) := by
 intro m a hS ht
 subst hn
 exact LastsIn.inner ht hS.h (fun id hid => List.all_eq_true.1 hL id hid) hS.np

/-- A function that is handed the loop's yield. -/
structure FnT (Θ : Mem → Prop) (P : Program) (gl : List (Nat × AV)) (f : FuncId) (xs : List AV) (hp : List (Nat × ABlk)) (nx : Nat) (R : AE → List (Nat × ABlk) → Nat → Prop) : Prop where
 enters : enters P f
 calls : ∀ m vs, StartH m gl hp nx → Θ m → RepL m 0 xs vs → Calls P f vs.toArray m.w fun e w' => ∃ m' r hp' nx', m'.w = w' ∧ m.le m' ∧ SimH m' hp' nx' ∧ endOkH m' r e ∧ R r hp' nx'
theorem FnT.mono {Θ : Mem → Prop} {P : Program} {gl : List (Nat × AV)} {f : FuncId} {xs : List AV} {hp : List (Nat × ABlk)} {nx : Nat} {R R' : AE → List (Nat × ABlk) → Nat → Prop} (h : FnT Θ P gl f xs hp nx R) (hr : ∀ r hp nx, R r hp nx → R' r hp nx) : FnT Θ P gl f xs hp nx R' :=
 ⟨h.enters, fun m vs hm ht hv => (h.calls m vs hm ht hv).mono fun _ _ ⟨m', r, hp', nx', h1, h2, h3, h4, h5⟩ => ⟨m', r, hp', nx', h1, h2, h3, h4, hr r _ _ h5⟩⟩
/-- A round of the loop whose record lies at 'l'. -/
def RoundT (Θ : Mem → Prop) (P : Program) (gl : List (Nat × AV)) (l : Nat) (xs : List AV) (hp : List (Nat × ABlk)) (nx : Nat) (R : AE → List (Nat × ABlk) → Nat → Prop) : Prop :=
 ∀ m vs, StartH m gl hp nx → Θ m → RepL m 0 xs vs → ∃ rc : Loop, m.w.heap[l]? = some (.loop rc) ∧ vs.toArray.size = rc.params.size ∧
  RoundIn (Fr none) 0 P l rc.fn ((rc.params.zip vs.toArray).foldl (fun tmps (t, a) => tmps.setIfInBounds t a) rc.tmps) rc.assign rc.body m.w fun e w' => ∃ m' r hp' nx', m'.w = w' ∧ m.le m' ∧ SimH m' hp' nx' ∧ endOkH m' r e ∧ R r hp' nx'
def ayield (σ : St) (o : Op) : Option (Prop × Nat × List AV) :=
 match o with
 | .call c => match c.callee with
  | .value g => match evE σ g with
   | some p => match p.2 with
    | .raw v => match v with
     | .func fn first _ => match fn with
      | .yield l => match evEs σ c.args.toList with
       | some q => some ((p.1 ∧ first = #[]) ∧ q.1, l, q.2)
       | none => none
      | _ => none
     | _ => none
    | _ => none
   | none => none
  | _ => none
 | _ => none
theorem ayield_sound {m : Mem} {a : Act} {σ : St} (hS : Sim m a σ) {o : Oper} {ob : Prop} {l : Nat} {ys : List AV} (h : ayield σ o.op = some (ob, l, ys)) (hob : ob) :
  ∃ vs : List Value, execOp a.eval o = Instr.yield l vs.toArray ∧ RepL m 0 ys vs := by
 unfold ayield at h
 split at h
 case h_2 => cases h
 rename_i c hc
 split at h
 case h_2 => cases h
 rename_i g hg
 split at h
 case h_2 => cases h
 rename_i p hp
 split at h
 case h_2 => cases h
 rename_i v hv
 split at h
 case h_2 => cases h
 rename_i fn first caps
 split at h
 case h_2 => cases h
 rename_i l'
 split at h
 case h_2 => cases h
 rename_i q hq
 simp only [Option.some.injEq, Prod.mk.injEq] at h
 obtain ⟨rfl, rfl, rfl⟩ := h
 have h1 := evE_sound hS hp hob.1.1
 rw [hv] at h1
 simp only [Rep] at h1
 have h2 := evEs_sound hS hq hob.2
 refine ⟨c.args.toList.map a.eval, ?_, h2⟩
 unfold execOp
 rw [hc]
 simp only [resolve, hg, h1, Deferred.ofValue, pure_bind, invoke, hob.1.2]
 have e : (List.map a.eval c.args.toList).toArray = Array.map a.eval c.args := by rw [← Array.toList_map]
 rw [e]
 congr 1
 simp

section
variable {B : Nat} {r : Option Nat} {Θ : Mem → Prop} {P : Program} {σ : St} {o : Oper} {K : St → Prop} {Kp : AV → St → Prop} {ob ob' : Prop} {f : FuncId} {ys zs xs : List AV} {hp0 : List (Nat × ABlk)} {R : AE → List (Nat × ABlk) → Nat → Prop} {L : List Nat}
/-- what the callee begins with -/
theorem innerStart {m : Mem} {a : Act} {vs : List Value} (hS : Sim m a σ) (hvs : RepL m 0 ys vs)
  (hz : mapO (fz σ.hp 9) ys = some (ob', zs)) (hob' : ob') (hL' : ∀ id ∈ L, (get σ.hp id).isSome = true) (hnd : L.Nodup)
  (hhp : viewHp (Aw.pick L σ.nx) L.length σ.hp hp0) (hxs : renL (Aw.pick L σ.nx) xs = zs) : StartH (m.innerH L σ.nx) σ.gl hp0 L.length ∧ RepL (m.innerH L σ.nx) 0 xs vs := by
 have hzs := mapO_sound (m := m) (m' := m) (k := 0) (f := fz σ.hp 9) (fun x y v ob h hob hv => fz_sound hS.h 9 x y v ob h hob hv) hz hob' hvs
 rw [← hxs] at hzs
 have hM := innerH_map hS.h hL'
 have hargs : RepL (m.innerH L σ.nx) 0 xs vs := by
  have := RepL.map hM xs vs (RepL.ren xs vs hzs)
  rw [renL_id] at this
  exact this
 have hP : KP m (m.innerH L σ.nx) := ⟨fun b hb => hM.Pr b hb, fun _ _ => rfl⟩
 have hF : KF m (m.innerH L σ.nx) := ⟨fun _ _ h => h, fun _ _ _ => rfl⟩
 exact ⟨⟨innerH_simH hS.h hL' hnd hhp, fun g x hg => Rep.monoK hF 1 (fun _ => hP) (Nat.le_refl 1) _ _ (hS.gl g x hg), rfl⟩, hargs⟩
theorem backRet {m m' : Mem} {a : Act} {y : AV} {v : Value} {hp' : List (Nat × ABlk)} {nx' : Nat} (hS : SimT B m a σ) (hL' : ∀ id ∈ L, (get σ.hp id).isSome = true) (hnd : L.Nodup) (hle : (m.innerH L σ.nx).le m') (hH' : SimH m' hp' nx')
  (hb : (backOkm L hp' nx' && noT y) = true) (hd : dstOk σ.n o.dst = true) (hv : Rep m' 0 y v) :
  m.leT (m.outerH m' L σ.nx) ∧ SimT B (m.outerH m' L σ.nx) (a.put o.dst v) (St.put (backSt σ L hp' nx') o.dst (ren (bk L σ.nx) y)) := by
 have hk2 := outerH_keeps hS.s.h hL' hle
 have hl2 := (outerH_le hS.s.h hL' hle).t
 simp only [backOkm, Bool.and_eq_true, decide_eq_true_eq] at hb
 have hH2 := outerH_simHm hS.s.h hL' hnd hle hH' hb.1.1 hb.1.2.1 hb.1.2.2
 have h := hS.s.put hk2 hH2 hd (Rep.mapT (bk_mapF hS.s.h hL' hle) y v hb.2 hv)
 have hdf : (a.put o.dst v).defers = a.defers := by cases o.dst <;> rfl
 refine ⟨hl2, ?_, by rw [hdf]; exact hS.marks.le hl2, Nat.le_trans hS.base hl2.size⟩
 have : ({ a.put o.dst v with defers := [] } : Act) = ({ a with defers := [] } : Act).put o.dst v := by cases o.dst <;> rfl
 rw [this]
 exact h
theorem backPan {m m' : Mem} {a : Act} {y : AV} {v : Value} {hp' : List (Nat × ABlk)} {nx' : Nat} (hS : SimT B m a σ) (hL' : ∀ id ∈ L, (get σ.hp id).isSome = true) (hnd : L.Nodup) (hle : (m.innerH L σ.nx).le m') (hH' : SimH m' hp' nx')
  (hb : backOkm L hp' nx' = true) (hv : Rep m' 2 y v) : m.leT (m.outerH m' L σ.nx) ∧ SimT B (m.outerH m' L σ.nx) a (backSt σ L hp' nx') ∧ Rep (m.outerH m' L σ.nx) 0 y v := by
 have hk2 := outerH_keeps hS.s.h hL' hle
 have hl2 := (outerH_le hS.s.h hL' hle).t
 simp only [backOkm, Bool.and_eq_true, decide_eq_true_eq] at hb
 have hH2 := outerH_simHm hS.s.h hL' hnd hle hH' hb.1 hb.2.1 hb.2.2
 have hKF2 : KF m' (m.outerH m' L σ.nx) := ⟨fun _ _ h => h, fun _ _ _ => rfl⟩
 have hv2 := Rep.monoK hKF2 2 (fun h => absurd h (by omega)) (by omega) _ _ hv
 exact ⟨hl2, ⟨hS.s.of hk2 hH2, hS.marks.le hl2, Nat.le_trans hS.base hl2.size⟩, Rep.down (Nat.zero_le 2) _ _ hv2⟩

theorem acall_notDefer (h : acall σ o.op = some (ob, f, ys)) : notDefer o.op = true := by
 unfold acall at h
 split at h
 case h_2 => cases h
 rename_i c hc
 rw [hc]
 rfl
theorem ayield_notDefer {l : Nat} (h : ayield σ o.op = some (ob, l, ys)) : notDefer o.op = true := by
 unfold ayield at h
 split at h
 case h_2 => cases h
 rename_i c hc
 rw [hc]
 rfl
theorem StepT.call (hΘ : ∀ m a, Sim m a σ → Θ m → Θ (m.innerH L σ.nx)) (h : acall σ o.op = some (ob, f, ys)) (hob : ob) (hd : dstOk σ.n o.dst = true)
  (hz : mapO (fz σ.hp 9) ys = some (ob', zs)) (hob' : ob') (hL : L.all (fun id => (get σ.hp id).isSome) = true) (hnd : L.Nodup)
  (hhp : viewHp (Aw.pick L σ.nx) L.length σ.hp hp0) (hxs : renL (Aw.pick L σ.nx) xs = zs) (hc : FnT Θ P σ.gl f xs hp0 L.length R)
  (hK : ∀ y hp' nx', R (.ret y) hp' nx' → (backOkm L hp' nx' && noT y) = true ∧ K (St.put (backSt σ L hp' nx') o.dst (ren (bk L σ.nx) y)))
  (hKp : ∀ y hp' nx', R (.panic y) hp' nx' → backOkm L hp' nx' = true ∧ Kp y (backSt σ L hp' nx')) : StepT B r Θ P σ o K Kp := by
 intro m a N X hS ht hN hX
 obtain ⟨vs, hexec, hvs⟩ := acall_sound hS.s h hob
 have he : ({ a with defers := [] } : Act).eval = a.eval := rfl
 rw [he] at hexec
 refine ⟨fun _ _ => trivial, ?_⟩
 rw [Oper.semAt_eq _ _ _ (notDefer_ne (acall_notDefer h)), hexec, hc.enters]
 have hL' : ∀ id ∈ L, (get σ.hp id).isSome = true := fun id hid => List.all_eq_true.1 hL id hid
 obtain ⟨hstart, hargs⟩ := innerStart hS.s hvs hz hob' hL' hnd hhp hxs
 have hcall := hc.calls (m.innerH L σ.nx) vs hstart (hΘ m _ hS.s ht) hargs
 have e2 : (m.innerH L σ.nx).w = m.w := rfl
 rw [e2] at hcall
 refine ⟨fun hh => (by cases hh), callsIn_fr.2 (hcall.mono ?_)⟩
 rintro e w' ⟨m', q, hp', nx', rfl, hle, hH', hend, hR⟩
 cases q with
 | ret y =>
  obtain ⟨v, rfl, hv⟩ := hend
  obtain ⟨hb, hk⟩ := hK y hp' nx' hR
  obtain ⟨h1, h2⟩ := backRet (o := o) hS hL' hnd hle hH' hb hd hv
  exact hN (m.outerH m' L σ.nx) _ _ h1 h2 hk
 | panic y =>
  obtain ⟨v, rfl, hv⟩ := hend
  obtain ⟨hb, hk⟩ := hKp y hp' nx' hR
  obtain ⟨h1, h2, h3⟩ := backPan hS hL' hnd hle hH' hb hv
  exact hX (m.outerH m' L σ.nx) _ y v h1 h2 h3 hk
theorem StepT.yield {l : Nat} (hΘ : ∀ m a, Sim m a σ → Θ m → Θ (m.innerH L σ.nx)) (h : ayield σ o.op = some (ob, l, ys)) (hob : ob) (hd : dstOk σ.n o.dst = true)
  (hz : mapO (fz σ.hp 9) ys = some (ob', zs)) (hob' : ob') (hL : L.all (fun id => (get σ.hp id).isSome) = true) (hnd : L.Nodup)
  (hhp : viewHp (Aw.pick L σ.nx) L.length σ.hp hp0) (hxs : renL (Aw.pick L σ.nx) xs = zs) (hc : RoundT Θ P σ.gl l xs hp0 L.length R)
  (hK : ∀ y hp' nx', R (.ret y) hp' nx' → (backOkm L hp' nx' && noT y) = true ∧ K (St.put (backSt σ L hp' nx') o.dst (ren (bk L σ.nx) y)))
  (hKp : ∀ y hp' nx', R (.panic y) hp' nx' → backOkm L hp' nx' = true ∧ Kp y (backSt σ L hp' nx')) : StepT B r Θ P σ o K Kp := by
 intro m a N X hS ht hN hX
 obtain ⟨vs, hexec, hvs⟩ := ayield_sound hS.s h hob
 have he : ({ a with defers := [] } : Act).eval = a.eval := rfl
 rw [he] at hexec
 refine ⟨fun _ _ => trivial, ?_⟩
 have hL' : ∀ id ∈ L, (get σ.hp id).isSome = true := fun id hid => List.all_eq_true.1 hL id hid
 obtain ⟨hstart, hargs⟩ := innerStart hS.s hvs hz hob' hL' hnd hhp hxs
 obtain ⟨rc, hrc, hsz, hcall⟩ := hc (m.innerH L σ.nx) vs hstart (hΘ m _ hS.s ht) hargs
 have e2 : (m.innerH L σ.nx).w = m.w := rfl
 rw [e2] at hcall hrc
 rw [Oper.semAt_eq _ _ _ (notDefer_ne (ayield_notDefer h)), hexec, run_yield hrc hsz]
 refine ⟨fun hh => (by cases hh), (show RoundIn (Fr none) 0 P _ _ _ _ _ _ _ from RoundIn.mono hcall ?_)⟩
 rintro e w' ⟨m', q, hp', nx', rfl, hle, hH', hend, hR⟩
 cases q with
 | ret y =>
  obtain ⟨v, rfl, hv⟩ := hend
  obtain ⟨hb, hk⟩ := hK y hp' nx' hR
  obtain ⟨h1, h2⟩ := backRet (o := o) hS hL' hnd hle hH' hb hd hv
  exact hN (m.outerH m' L σ.nx) _ _ h1 h2 hk
 | panic y =>
  obtain ⟨v, rfl, hv⟩ := hend
  obtain ⟨hb, hk⟩ := hKp y hp' nx' hR
  obtain ⟨h1, h2, h3⟩ := backPan hS hL' hnd hle hH' hb hv
  exact hX (m.outerH m' L σ.nx) _ y v h1 h2 h3 hk
end
end Aw
