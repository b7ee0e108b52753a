/- Rules of a calculus of walks: no condition of its own. -/
import Derived.Test.YtboaclfnjdhcpaaDoorCore28
namespace Aw
open Go
section
variable {κ ν : Type} [DecidableEq κ] {kind : TypeDesc} {VK : κ → Value} {K : κ → AV} {V : ν → AV} {P : Program} {ds : List (Option Tmp)} {σ : St} {o : Oper} {KK : St → Prop} {Kp : AV → St → Prop} {ob : Prop}
theorem gmapclr_sound (hK : KeyOk kind VK K) {t kt et : TypeId} {i : TI} {x : Operand} {id : Nat} {l : List (κ × ν)} {c : Call} (ho : o.op = .call c) (hc : c.callee = .builtin .clear) (ha : c.args = #[x]) (ht : c.argTypes = #[t]) (hi : tinfo P t = some i) (hk : i.k = .map kt et)
  (hx : evE σ x = some (ob,.map id)) (hob : ob) (hp : get σ.hp id = some (mapOf K V l)) {m : Mem} {a : Act} (hS : Sim m a σ) :
  EffOk P m a o ⟨True,.tup [],set σ.hp id (mapOf K V ([] : List (κ × ν))),σ.nx⟩:=by
 have hv:=evE_sound hS hx hob
 simp only [Rep] at hv
 obtain ⟨_,ri,hρ,hv⟩:=hv
 obtain ⟨ri',hρ',hb⟩:=hS.h.blk id _ hp
 rw [hρ] at hρ'
 injection hρ' with hρ'
 subst hρ'
 obtain ⟨h1,h2,h3,es,clock,h4,h5,h6,h7⟩:=map_blk hK hb
 obtain ⟨callee,args,argTypes⟩:=c
 simp only at hc ha ht
 subst hc ha ht
 have hum:=und_map hi hk
 have hund : (underlying t).run P m.w = .ok (.map kt et) m.w:=by simp only [underlying,program,bind,Sem.bind,Sem.run,hum,pure]
 have hrun : (Builtin.clear_ #[t] o.type #[.map (some ri.b)]).run P m.w = .ok (.tuple #[]) (wset m.w ri.b (.map #[] clock)):=by
  have e1 : (#[t] : Array TypeId)[0]? = some t:=rfl
  have e2 : (#[Value.map (some ri.b)] : Array Value)[0]? = some (.map (some ri.b)):=rfl
  simp only [Builtin.clear_,e1,e2,Sem.run_bind,hund,Result.andThen_ok,Sem.run_pure,run_getMap h4,run_setMap h4]
 have hU : Upd m { m with w:=wset m.w ri.b (.map #[] clock) } ri.b:=Upd.set hS.h h2 (fun o h=>(h3 o h).elim)
 refine ⟨.tuple #[],{ m with w:=wset m.w ri.b (.map #[] clock) },.inl ?_,hU.le hS.h,hU.keeps hS.h,?_,by simp only [Rep]; exact ⟨#[],rfl,by simp [RepL]⟩⟩
 ·simp only [execOp,ho]
  show (do pure (Next.value (← Builtin.clear_ #[t] o.type ((#[x] : Array Operand).map a.eval))) : Sem Next).run P m.w = _
  have e3 : (#[x] : Array Operand).map a.eval = #[a.eval x]:=by simp
  rw [e3,hv]
  exact run_value hrun
 ·refine hS.h.upd hU (k:=id) (ri:=ri) (blk:=mapOf K V []) hρ (blk_map hK h1 h2 h3 (wset_get h4) rfl (by simp [RepL]) ?_) (fun _=>rfl) (by rw [get_set,if_pos rfl]) ?_ hS.h.fresh
  ·exact ⟨fun e he=>by simp at he,by simp⟩
  intro j hj z hz
  rw [get_set,if_neg (Ne.symm hj)] at hz
  exact ⟨hz,hS.h.sole hp hρ h1 j hj z hz⟩
theorem awGuard.clM (hK : KeyOk kind VK K) {t kt et : TypeId} {i : TI} {x : Operand} {id : Nat} {l : List (κ × ν)} {c : Call} (h : KK (St.put ⟨σ.n,σ.env,set σ.hp id (mapOf K V ([] : List (κ × ν))),σ.nx,σ.gl,σ.np,σ.df⟩ o.dst (.tup []))) (hg : o.guard = none:=by exact rfl) (ho : o.op = .call c:=by exact rfl) (hc : c.callee = .builtin .clear:=by exact rfl) (ha : c.args = #[x]:=by exact rfl) (ht : c.argTypes = #[t]:=by exact rfl)
  (hi : tinfo P t = some i:=by (simp only [go_sem,seval]; iterate 2 try (simp (disch:=omega) only [zq]; try simp only [go_sem,seval])); exact rfl) (hk : i.k = .map kt et:=by exact rfl) (hx : evE σ x = some (ob,.map id):=by (simp only [go_sem,seval]; iterate 2 try (simp (disch:=omega) only [zq]; try simp only [go_sem,seval])); exact rfl) (hob : ob:=by ((try (simp only [go_sem,seval]; iterate 2 try (simp (disch:=omega) only [zq]; try simp only [go_sem,seval]))); try (first | exact True.intro | omega | (simp only [zb]; omega) | (simp; done) | (simp; omega) | (and_intros <;> first | assumption | omega | (simp; done) | (simp; omega))))) (hp : get σ.hp id = some (mapOf K V l):=by (simp only [go_sem,seval]; iterate 2 try (simp (disch:=omega) only [zq]; try simp only [go_sem,seval])); exact rfl) (hd : dstOk σ.n o.dst = true:=by (simp only [go_sem,seval]; iterate 2 try (simp (disch:=omega) only [zq]; try simp only [go_sem,seval]))) : awGuard P ds o σ KK Kp :=
 awGuard.effK ⟨True,.tup [],set σ.hp id (mapOf K V ([] : List (κ × ν))),σ.nx⟩ hg (by rw [ho]; simp only [pureOp,hc]) (by rw [ho]; simp only [effOp,hc]) hd (.inl (by rw [ho]; simp only [isEff,hc]))
  (fun m a hS=>gmapclr_sound hK ho hc ha ht hi hk hx hob hp hS) h
end
/-! a function value in a cell that it takes along -/
def recC (f : FuncId) (xs : List AV) : Nat → AV
 | 0=>.clos f (xs ++ [.tptr []])
 | n + 1=>.clos f (xs ++ [.tptr [recC f xs n]])
theorem shr_ptr0 {hp : List (Nat × ABlk)} (n : Nat) {id : Nat} {cs cs' : List AV} {ob : Prop} (h1 : get hp id = some (.cells cs)) (h2 : mapO (shr true hp n) cs = some (ob,cs')) : shr true hp (n + 1) (.ptr id 0) = some (ob,.tptr cs'):=by
 simp only [shr,if_true,h1,h2,List.drop_zero]
theorem share_rec {m : Mem} {hp : List (Nat × ABlk)} {nx : Nat} (H : SimH m hp nx) {u b : Nat} {f : FuncId} {cs cs' : List AV} {ob' : Prop} (hb : get hp b = some (.cells [.clos f [.ptr u 0,.ptr b 0]])) (hu : get hp u = some (.cells cs))
  (hcs : mapO (shr true hp 8) cs = some (ob',cs')) (ho : ob') {v1 v : Value} (hv1 : Rep m 0 (.ptr u 0) v1) (hv : Rep m 0 (.ptr b 0) v) : Rep m.inner 1 (.tptr cs') v1 ∧ ∀ n,Rep m.inner 1 (.tptr [recC f [.tptr cs'] n]) v:=by
 have hin : KF m m.inner:=⟨fun _ _ h=>h,fun _ _ _=>rfl⟩
 have hsh : shr true hp 9 (.ptr u 0) = some (ob',.tptr cs'):=shr_ptr0 8 hu hcs
 have hU : ∀ w,Rep m 0 (.ptr u 0) w → Rep m.inner 1 (.tptr cs') w:=fun w hw=>by simpa using shr_sound H true hin rfl (fun _ b hb=>hb) 9 (.ptr u 0) (.tptr cs') w ob' hsh ho hw
 refine ⟨hU v1 hv1,?_⟩
 have hv0:=hv
 simp only [Rep] at hv
 obtain ⟨_,ri,hρ,rfl⟩:=hv
 obtain ⟨ri',hρ',hblk⟩:=H.blk b _ hb
 rw [hρ] at hρ'
 injection hρ' with hρ'
 subst hρ'
 obtain ⟨g1,g2,g3,c,T,g4,g5⟩:=hblk
 have hX:=RepX.zero_of_list g4 g5
 obtain ⟨fv,hc,hfv⟩:=hX.at 0 (by simp)
 simp only [List.getElem_cons_zero,Rep] at hfv
 obtain ⟨vs,rfl,hl⟩:=hfv
 simp only [RepL] at hl
 obtain ⟨w1,r1,e1,hw1,w2,r2,e2,hw2,e3⟩:=hl
 subst e3
 subst e2
 have hw1':=hU w1 (by simpa only [Rep] using hw1)
 have hlt : ri.b < m.w.heap.size:=by
  rcases Array.getElem?_eq_some_iff.1 g4 with ⟨h,_⟩
  exact h
 obtain ⟨_,ri2,hρ2,rfl⟩:=hw2
 rw [hρ] at hρ2
 injection hρ2 with hρ2
 subst hρ2
 intro n
 induction n with
 | zero =>
  simp only [Rep,RepP,recC]
  refine ⟨by omega,ri.b,0,rfl,hlt,⟨_,hc,vs,rfl,?_⟩,trivial⟩
  rw [e1]
  simp only [List.cons_append,List.nil_append,RepL]
  exact ⟨_,_,rfl,hw1',_,_,rfl,by simp only [Rep,RepP]; exact ⟨by omega,ri.b,0,rfl,trivial⟩,rfl⟩
 | succ n ih =>
  simp only [Rep,RepP,recC]
  refine ⟨by omega,ri.b,0,rfl,hlt,⟨_,hc,vs,rfl,?_⟩,trivial⟩
  rw [e1]
  simp only [List.cons_append,List.nil_append,RepL]
  exact ⟨_,_,rfl,hw1',_,_,rfl,ih,rfl⟩
section
variable {P : Program} {ds : List (Option Tmp)} {σ : St} {o : Oper} {K : St → Prop} {Kp : AV → St → Prop} {ob ob' ob1 : Prop} {f : FuncId} {ys xs : List AV}
theorem SemStep.callS {R : AE → Prop} (h : acall σ o.op = some (ob,f,ys)) (hob : ob) (hd : dstOk σ.n o.dst = true)
  (hsh : ∀ m vs,SimH m σ.hp σ.nx → RepL m 0 ys vs → RepL m.inner 1 xs vs) (hc : FnP P σ.gl f xs R)
  (hK : ∀ y,R (.ret y) → K (σ.put o.dst y)) (hKp : ∀ y,R (.panic y) → Kp y σ) : SemStep P σ o K Kp:=by
 intro m a N Q hS hN hQ
 obtain ⟨vs,hexec,hvs⟩:=acall_sound hS h hob
 unfold Oper.wp
 rw [hexec,hc.enters,Oper.upon_enter]
 have hin : KF m m.inner:=⟨fun _ _ h=>h,fun _ _ _=>rfl⟩
 have hKP : KP m m.inner:=⟨fun b hb=>hS.h.Pold b hb,fun _ _=>rfl⟩
 have hstart : Start m.inner σ.gl:=⟨hS.h.Fold,fun _ h=>h,fun g x hg=>Rep.monoK hin 1 (fun _=>hKP) (Nat.le_refl 1) _ _ (hS.gl g x hg),rfl,fun _=>rfl⟩
 refine (hc.calls m.inner vs hstart (hsh m vs hS.h hvs)).mono ?_
 rintro e w' ⟨m',r,rfl,hle,hF,hend,hR⟩
 have hH2:=outer_simH hS.h hle hF
 have hk2:=outer_keeps hS.h hle
 have hl2:=outer_le hS.h hle
 have hKF2 : KF m' (m.outer m'):=⟨fun _ _ h=>h,fun _ _ _=>rfl⟩
 cases r with
 | ret y =>
  obtain ⟨v,rfl,hv⟩:=hend
  have hv2:=Rep.monoK hKF2 2 (fun h=>absurd h (by omega)) (by omega) _ _ hv
  exact hN (m.outer m') _ _ hl2 hk2 (hS.put hk2 hH2 hd (Rep.down (Nat.zero_le 2) _ _ hv2)) (.eff (acall_isEff h) (acall_notA h)) .put (hK y hR)
 | panic y =>
  obtain ⟨v,rfl,hv⟩:=hend
  have hv2:=Rep.monoK hKF2 2 (fun h=>absurd h (by omega)) (by omega) _ _ hv
  exact hQ (m.outer m') _ y v hl2 hk2 (hS.of hk2 hH2) (Rep.down (Nat.zero_le 2) _ _ hv2) (fun _=>rfl) (hKp y hR)
theorem awGuard.cR (n : Nat) {x x' y : AV} {u b : Nat} {cs cs' : List AV} (hc : FnP P σ.gl f [x',.tptr cs',.tptr [recC f [.tptr cs'] n]] fun r=>r = .ret y) (hK : K (σ.put o.dst y)) (hg : o.guard = none:=by exact rfl)
  (h : acall σ o.op = some (ob,f,[x,.ptr u 0,.ptr b 0]):=by (simp only [go_sem,seval]; iterate 2 try (simp (disch:=omega) only [zq]; try simp only [go_sem,seval])); exact rfl) (hx : shr true σ.hp 9 x = some (ob1,x'):=by (simp only [go_sem,seval]; iterate 2 try (simp (disch:=omega) only [zq]; try simp only [go_sem,seval])); exact rfl) (hb : get σ.hp b = some (.cells [.clos f [.ptr u 0,.ptr b 0]]):=by first | ((simp only [go_sem,seval]; iterate 2 try (simp (disch:=omega) only [zq]; try simp only [go_sem,seval])); done) | ((simp only [go_sem,seval]; iterate 2 try (simp (disch:=omega) only [zq]; try simp only [go_sem,seval])); exact rfl)) (hu : get σ.hp u = some (.cells cs):=by first | ((simp only [go_sem,seval]; iterate 2 try (simp (disch:=omega) only [zq]; try simp only [go_sem,seval])); done) | ((simp only [go_sem,seval]; iterate 2 try (simp (disch:=omega) only [zq]; try simp only [go_sem,seval])); exact rfl))
  (hcs : mapO (shr true σ.hp 8) cs = some (ob',cs'):=by (simp only [go_sem,seval]; iterate 2 try (simp (disch:=omega) only [zq]; try simp only [go_sem,seval])); exact rfl) (hd : dstOk σ.n o.dst = true:=by (simp only [go_sem,seval]; iterate 2 try (simp (disch:=omega) only [zq]; try simp only [go_sem,seval]))) (hob : ob:=by ((try (simp only [go_sem,seval]; iterate 2 try (simp (disch:=omega) only [zq]; try simp only [go_sem,seval]))); try (first | exact True.intro | omega | (simp only [zb]; omega) | (simp; done) | (simp; omega) | (and_intros <;> first | assumption | omega | (simp; done) | (simp; omega))))) (hob1 : ob1:=by ((try (simp only [go_sem,seval]; iterate 2 try (simp (disch:=omega) only [zq]; try simp only [go_sem,seval]))); try (first | exact True.intro | omega | (simp only [zb]; omega) | (simp; done) | (simp; omega) | (and_intros <;> first | assumption | omega | (simp; done) | (simp; omega))))) (hob' : ob':=by ((try (simp only [go_sem,seval]; iterate 2 try (simp (disch:=omega) only [zq]; try simp only [go_sem,seval]))); try (first | exact True.intro | omega | (simp only [zb]; omega) | (simp; done) | (simp; omega) | (and_intros <;> first | assumption | omega | (simp; done) | (simp; omega))))) : awGuard P ds o σ K Kp:=by
 unfold awGuard
 rw [hg]
 simp only
 unfold awStep
 rw [(acall_pure h).1,(acall_pure (P:=P) (g:=true) h).2]
 refine SemStep.callS h hob hd (fun m vs H hv=>?_) hc (fun z hz=>by cases hz; exact hK) (fun z hz=>by cases hz)
 simp only [RepL] at hv ⊢
 obtain ⟨v0,r0,rfl,h0,v1,r1,rfl,h1,v2,r2,rfl,h2,rfl⟩:=hv
 obtain ⟨k1,k2⟩:=share_rec H hb hu hcs hob' h1 h2
 exact ⟨v0,_,rfl,by simpa using shr_sound H true (m':=m.inner) ⟨fun _ _ h=>h,fun _ _ _=>rfl⟩ rfl (fun _ b hb=>hb) 9 x x' v0 ob1 hx hob1 h0,v1,_,rfl,k1,v2,_,rfl,k2 n,rfl⟩
end
theorem awTree.fH {P : Program} {ops : Array Oper} {K : St → Prop} {Kp : AV → St → Prop} {σ : St} {o : Oper} {i : Nat} {t r : PT} (ho : nth ops.toList i = some o) (h : awGuard P (ops.toList.map (·.dst)) o σ (awTree P ops K Kp t) Kp) (hr : awTree P ops K Kp r σ) : awTree P ops K Kp (.fork i t r) σ:=⟨⟨o,nth_ops ho,h⟩,hr⟩
section
variable {P : Program} {ds : List (Option Tmp)} {σ : St} {o : Oper} {K : St → Prop} {Kp : AV → St → Prop} {ob ob' : Prop} {f : FuncId} {ys xs zs : List AV} {hp0 hp1 : List (Nat × ABlk)} {n1 : Nat}
theorem SemStep.callHm {R : AE → List (Nat × ABlk) → Nat → Prop} {L : List Nat} (h : acall σ o.op = some (ob,f,ys)) (hob : ob) (hd : dstOk σ.n o.dst = true)
  (hz : mapO (fz σ.hp 9) ys = some (ob',zs)) (hob' : ob') (hL : L.all (fun id=>(get σ.hp id).isSome) = true) (hnd : L.Nodup)
  (hhp : viewHp (Aw.pick L σ.nx) L.length σ.hp hp0) (hxs : renL (Aw.pick L σ.nx) xs = zs) (hc : FnH P σ.gl f xs hp0 L.length R)
  (hK : ∀ y hp' nx',R (.ret y) hp' nx' → (backOkm L hp' nx' && noT y) = true ∧ K (St.put (backSt σ L hp' nx') o.dst (ren (bk L σ.nx) y)))
  (hKp : ∀ y hp' nx',R (.panic y) hp' nx' → backOkm L hp' nx' = true ∧ Kp y (backSt σ L hp' nx')) : SemStep P σ o K Kp:=by
 intro m a N Q hS hN hQ
 obtain ⟨vs,hexec,hvs⟩:=acall_sound hS h hob
 unfold Oper.wp
 rw [hexec,hc.enters,Oper.upon_enter]
 have hL' : ∀ id ∈ L,(get σ.hp id).isSome = true:=fun id hid=>List.all_eq_true.1 hL id hid
 have hzs:=mapO_sound (m:=m) (m':=m) (k:=0) (f:=fz σ.hp 9) (fun x y v ob h hob hv=>fz_sound hS.h 9 x y v ob h hob hv) hz hob' hvs
 rw [← hxs] at hzs
 have hM:=innerH_map hS.h hL'
 have hargs : RepL (m.innerH L σ.nx) 0 xs vs:=by
  have:=RepL.map hM xs vs (RepL.ren xs vs hzs)
  rw [renL_id] at this
  exact this
 have hP : KP m (m.innerH L σ.nx):=⟨fun b hb=>hM.Pr b hb,fun _ _=>rfl⟩
 have hF : KF m (m.innerH L σ.nx):=⟨fun _ _ h=>h,fun _ _ _=>rfl⟩
 have hstart : StartH (m.innerH L σ.nx) σ.gl hp0 L.length:=⟨innerH_simH hS.h hL' hnd hhp,fun g x hg=>Rep.monoK hF 1 (fun _=>hP) (Nat.le_refl 1) _ _ (hS.gl g x hg),rfl⟩
 have hcall:=hc.calls (m.innerH L σ.nx) vs hstart hargs
 have e2 : (m.innerH L σ.nx).w = m.w:=rfl
 rw [e2] at hcall
 refine hcall.mono ?_
 rintro e w' ⟨m',r,hp',nx',rfl,hle,hH',hend,hR⟩
 have hk2:=outerH_keeps hS.h hL' hle
 have hl2:=outerH_le hS.h hL' hle
 cases r with
 | ret y =>
  obtain ⟨v,rfl,hv⟩:=hend
  obtain ⟨hb,hk⟩:=hK y hp' nx' hR
  simp only [backOkm,Bool.and_eq_true,decide_eq_true_eq] at hb
  have hH2:=outerH_simHm hS.h hL' hnd hle hH' hb.1.1 hb.1.2.1 hb.1.2.2
  exact hN (m.outerH m' L σ.nx) _ _ hl2 hk2 (hS.put hk2 hH2 hd (Rep.mapT (bk_mapF hS.h hL' hle) y v hb.2 hv)) (.eff (acall_isEff h) (acall_notA h)) .put hk
 | panic y =>
  obtain ⟨v,rfl,hv⟩:=hend
  obtain ⟨hb,hk⟩:=hKp y hp' nx' hR
  simp only [backOkm,Bool.and_eq_true,decide_eq_true_eq] at hb
  have hH2:=outerH_simHm hS.h hL' hnd hle hH' hb.1 hb.2.1 hb.2.2
  have hKF2 : KF m' (m.outerH m' L σ.nx):=⟨fun _ _ h=>h,fun _ _ _=>rfl⟩
  have hv2:=Rep.monoK hKF2 2 (fun h=>absurd h (by omega)) (by omega) _ _ hv
  exact hQ (m.outerH m' L σ.nx) _ y v hl2 hk2 (hS.of hk2 hH2) (Rep.down (Nat.zero_le 2) _ _ hv2) (fun _=>rfl) hk
theorem awGuard.cHm {y : AV} (L : List Nat) (hc : FnH P σ.gl f xs hp0 L.length fun r h n=>r = .ret y ∧ h = hp1 ∧ n = n1) (hK : K (St.put (backSt σ L hp1 n1) o.dst (ren (bk L σ.nx) y))) (hg : o.guard = none:=by exact rfl)
  (h : acall σ o.op = some (ob,f,ys):=by (simp only [go_sem,seval]; iterate 2 try (simp (disch:=omega) only [zq]; try simp only [go_sem,seval])); exact rfl) (hz : mapO (fz σ.hp 9) ys = some (ob',zs):=by (simp only [go_sem,seval]; iterate 2 try (simp (disch:=omega) only [zq]; try simp only [go_sem,seval])); exact rfl) (hd : dstOk σ.n o.dst = true:=by (simp only [go_sem,seval]; iterate 2 try (simp (disch:=omega) only [zq]; try simp only [go_sem,seval]))) (hL : L.all (fun id=>(get σ.hp id).isSome) = true:=by (simp only [go_sem,seval]; iterate 2 try (simp (disch:=omega) only [zq]; try simp only [go_sem,seval]))) (hnd : L.Nodup:=by decide)
  (hhp : viewHp (Aw.pick L σ.nx) L.length σ.hp hp0:=by (try (simp only [go_sem,seval]; iterate 2 try (simp (disch:=omega) only [zq]; try simp only [go_sem,seval]))) <;> (try (first | rfl | trivial | (and_intros <;> first | rfl | trivial)))) (hxs : renL (Aw.pick L σ.nx) xs = zs:=by (try (simp only [go_sem,seval]; iterate 2 try (simp (disch:=omega) only [zq]; try simp only [go_sem,seval]))) <;> (try rfl)) (hob : ob:=by ((try (simp only [go_sem,seval]; iterate 2 try (simp (disch:=omega) only [zq]; try simp only [go_sem,seval]))); try (first | exact True.intro | omega | (simp only [zb]; omega) | (simp; done) | (simp; omega) | (and_intros <;> first | assumption | omega | (simp; done) | (simp; omega))))) (hob' : ob':=by ((try (simp only [go_sem,seval]; iterate 2 try (simp (disch:=omega) only [zq]; try simp only [go_sem,seval]))); try (first | exact True.intro | omega | (simp only [zb]; omega) | (simp; done) | (simp; omega) | (and_intros <;> first | assumption | omega | (simp; done) | (simp; omega)))))
  (hb : (backOkm L hp1 n1 && noT y) = true:=by (simp only [go_sem,seval]; iterate 2 try (simp (disch:=omega) only [zq]; try simp only [go_sem,seval]))) : awGuard P ds o σ K Kp:=by
 unfold awGuard
 rw [hg]
 simp only
 unfold awStep
 rw [(acall_pure h).1,(acall_pure (P:=P) (g:=true) h).2]
 exact SemStep.callHm h hob hd hz hob' hL hnd hhp hxs hc (fun z _ _ ⟨h1,h2,h3⟩=>by cases h1; subst h2 h3; exact ⟨hb,hK⟩) (fun _ _ _ ⟨h1,_⟩=>by cases h1)
end
end Aw
