/- Rules of a calculus of walks: no condition of its own. -/
import Derived.Test.YtboaclfnjdhcpaaDoorCore37
namespace Aw
open Go
section
variable {B : Bs} {r : Option Nat} {Θ : Mem → Prop} {P : Program} {σ σ' : St} {Q : AX → St → Prop} {x y : Code} {c : Code} {id : Nat} {o : Oper} {rest : List Oper} {ops : Array Oper} {K : St → Prop} {Kp : AV → St → Prop} {ob ob' : Prop} {f : FuncId} {ys zs xs : List AV} {l : List Oper} {hp0 hp1 : List (Nat × ABlk)} {n1 : Nat}
theorem OpsT.stepG [Lasts Θ] {pg : Nat × Bool} (hg : o.guard = some pg) (hgv : gAt (ops.toList.map (·.dst)) σ pg.1 pg.2 = some true) (h : StepT B r Θ P σ o (fun σ'=>OpsT B r Θ P ops rest σ' K Kp) Kp) : OpsT B r Θ P ops (o :: rest) σ K Kp:=by
 intro m0 X hK hKp m a hle hS ht
 unfold wpListIn
 have hw : Region.wanted o (yielded ops a.tmps) = true:=by
  simp only [Region.wanted,hg]
  exact gAt_sound hS.s hgv
 rw [if_pos hw]
 exact h m a _ _ hS ht (fun m' a' σ' hle' hS' hk=>hk m0 X hK hKp m' a' (hle.trans hle') hS' (Lasts.le hle' ht)) (fun m' σ' x v hle' hS' hx hk=>hKp m' a σ' x v (hle.trans hle') hS' hx hk)
theorem OpsT.gN [Lasts Θ] {pg : Nat × Bool} (y : AV) (hk : OpsT B r Θ P ops rest (σ.put o.dst (.opt false y)) K Kp) (hg : o.guard = some pg:=by exact rfl) (hgv : gAt (ops.toList.map (·.dst)) σ pg.1 pg.2 = some false:=by (simp only [go_sem,seval]; iterate 2 try (simp (disch:=omega) only [zq]; try simp only [go_sem,seval])); exact rfl) (hd : dstOk σ.n o.dst = true:=by (simp only [go_sem,seval]; iterate 2 try (simp (disch:=omega) only [zq]; try simp only [go_sem,seval]))) : OpsT B r Θ P ops (o :: rest) σ K Kp:=by
 intro m0 X hK hKp m a hle hS ht
 unfold wpListIn
 have hw : Region.wanted o (yielded ops a.tmps) = false:=by
  simp only [Region.wanted,hg]
  exact gAt_sound hS.s hgv
 rw [if_neg (by rw [hw]; simp)]
 refine ⟨fun _ _=>trivial,hk m0 X hK hKp m _ hle (hS.put hd ?_) ht⟩
 simp only [Rep]
 exact ⟨fun h=>(by cases h),fun _=>trivial⟩
theorem OpsT.cYG [LastsU Θ] {y : AV} {k : Nat} {pg : Nat × Bool} (L : List Nat) (hc : RoundU Θ P σ.gl k xs hp0 L.length σ.np fun r h n=>r = .ret y ∧ h = hp1 ∧ n = n1) (hK : OpsT B r Θ P ops rest (St.put (backU σ L σ.np hp1 n1) o.dst (ren (bk (L.take σ.np) σ.nx) y)) K Kp) (hg : o.guard = some pg:=by exact rfl) (hgv : gAt (ops.toList.map (·.dst)) σ pg.1 pg.2 = some true:=by (simp only [go_sem,seval]; iterate 2 try (simp (disch:=omega) only [zq]; try simp only [go_sem,seval])); exact rfl)
  (h : ayield σ o.op = some (ob,k,ys):=by (simp only [go_sem,seval]; iterate 2 try (simp (disch:=omega) only [zq]; try simp only [go_sem,seval])); exact rfl) (hz : mapO (fz σ.hp 9) ys = some (ob',zs):=by (simp only [go_sem,seval]; iterate 2 try (simp (disch:=omega) only [zq]; try simp only [go_sem,seval])); exact rfl) (hd : dstOk σ.n o.dst = true:=by (simp only [go_sem,seval]; iterate 2 try (simp (disch:=omega) only [zq]; try simp only [go_sem,seval]))) (hL : L.all (fun id=>(get σ.hp id).isSome) = true:=by (simp only [go_sem,seval]; iterate 2 try (simp (disch:=omega) only [zq]; try simp only [go_sem,seval]))) (hnd : L.Nodup:=by decide)
  (hhp : viewHp (Aw.pick L σ.nx) L.length σ.hp hp0:=by (try (simp only [go_sem,seval]; iterate 2 try (simp (disch:=omega) only [zq]; try simp only [go_sem,seval]))) <;> (try (first | rfl | trivial | (and_intros <;> first | rfl | trivial)))) (hxs : renL (Aw.pick L σ.nx) xs = zs:=by (try (simp only [go_sem,seval]; iterate 2 try (simp (disch:=omega) only [zq]; try simp only [go_sem,seval]))) <;> (try rfl)) (hob : ob:=by ((try (simp only [go_sem,seval]; iterate 2 try (simp (disch:=omega) only [zq]; try simp only [go_sem,seval]))); try (first | exact True.intro | omega | (simp only [zb]; omega) | (simp; done) | (simp; omega) | (and_intros <;> first | assumption | omega | (simp; done) | (simp; omega))))) (hob' : ob':=by ((try (simp only [go_sem,seval]; iterate 2 try (simp (disch:=omega) only [zq]; try simp only [go_sem,seval]))); try (first | exact True.intro | omega | (simp only [zb]; omega) | (simp; done) | (simp; omega) | (and_intros <;> first | assumption | omega | (simp; done) | (simp; omega)))))
  (hb : (backOku σ.np hp1 n1 && noT y) = true:=by (simp only [go_sem,seval]; iterate 2 try (simp (disch:=omega) only [zq]; try simp only [go_sem,seval]))) (hnl : σ.np ≤ L.length:=by exact Nat.le_of_ble_eq_true rfl) (hn : L.take σ.np = List.range σ.np:=by rfl) : OpsT B r Θ P ops (o :: rest) σ K Kp :=
 OpsT.stepG hg hgv (StepU.yield (LastsU.at hL hnl hn) h hob hd hz hob' hL hnd hnl hhp hxs hc (fun z _ _ ⟨h1,h2,h3⟩=>by cases h1; subst h2 h3; exact ⟨hb,hK⟩) (fun _ _ _ ⟨h1,_⟩=>by cases h1))
theorem AWT.post {Q : AX → St → Prop} {c : Code} (h : AWT B r Θ P c σ (fun ax σ'=>ax = .normal ∧ ∃ σ'',St.le σ'' σ' ∧ Q .normal σ'')) : AWT B r Θ P c σ Q:=fun m a hS ht=>by
 refine wpB_mono (h m a hS ht) ?_
 rintro e a' w' ⟨m',σ',ax,rfl,hle,hS',hex,rfl,σ'',h2,hq⟩
 simp only [exOk] at hex
 subst hex
 obtain ⟨m2,e2,l2,s2⟩:=hS'.le h2
 exact ⟨m2,σ'',.normal,e2,hle.trans l2,s2,rfl,hq⟩
end
theorem St.le.rowTake {σ : St} (id k : Nat) {sz : Nat} {es : List (List AV)} (hg : get σ.hp id = some (.row sz es true)) : St.le ⟨σ.n,σ.env,set σ.hp id (.row sz (es.take k) true),σ.nx,σ.gl,σ.np,σ.df⟩ σ:=by
 intro m a hS
 refine ⟨m,rfl,.refl m,⟨⟨?_,?_,hS.h.fresh,hS.h.Fold,hS.h.Pold⟩,hS.n,hS.defers,hS.env,hS.gl,hS.np⟩⟩
 ·intro i x hx
  rw [get_set] at hx
  split at hx
  ·rename_i e
   injection hx with hx
   subst e hx
   obtain ⟨ri,hρ,hb⟩:=hS.h.blk _ _ hg
   refine ⟨ri,hρ,?_⟩
   rcases hb with ⟨h1,h2⟩ | ⟨h1,h2,h3,h4,h5,h8⟩
   ·exact .inl ⟨h1,by rw [h2,List.take_nil]⟩
   ·refine .inr ⟨h1,h2,h3,Nat.le_trans (by simp; omega) h4,h5,?_⟩
    rw [if_pos rfl] at h8 ⊢
    exact ⟨h8.1.take k,h8.2⟩
  ·exact hS.h.blk i x hx
 ·intro i i' x x' r r' hx hx' hr hr' hne hn hn'
  have hk : ∀ j y,get (set σ.hp id (.row sz (es.take k) true)) j = some y → ∃ z,get σ.hp j = some z:=by
   intro j y hy
   rw [get_set] at hy
   split at hy
   ·rename_i e; subst e; exact ⟨_,hg⟩
   ·exact ⟨y,hy⟩
  obtain ⟨z,hz⟩:=hk i x hx
  obtain ⟨z',hz'⟩:=hk i' x' hx'
  exact hS.h.apart i i' z z' r r' hz hz' hr hr' hne hn hn'
section
variable {B : Bs} {r : Option Nat} {Θ : Mem → Prop} {P : Program} {σ : St} {Q : AX → St → Prop} {y : Code} {ops : Array Oper} {id : Nat}
theorem AWT.tG [Lasts Θ] {σf : St} (T : PT) (h : awTree P ops (fun σ=>σ.norm = σf) (fun x σ'=>Q (.panic x) σ') T σ) (hk : AWT B r Θ P y σf Q) (hm : P.follows .mixedOrders = true:=by kernel_rfl) (hsel : Region.noSelect ops = true:=by kernel_rfl)
  (hp : treeOk ops false ops.size T (Array.replicate ops.size false) = true:=by kernel_rfl) (hQ : PI Q:=by repeat (first | exact Aw.PI.fin | exact Aw.PI.finH | exact Aw.PI.round | refine Aw.PI.unblock ?_ | refine Aw.PI.andThen ?_)) (hnd : noDefers ops.toList = true:=by rfl) : AWT B r Θ P (.seq (.region id ops true) y) σ Q :=
 AWT.seq (AWT.ofG hm hnd (AWG.drawTreeG T hsel hp (PI.andThen hQ) h hk))
theorem AWT.tGL {σf : St} (T : PT) (h : awTree P ops (fun σ=>σ.norm = σf) (fun x σ'=>Q (.panic x) σ') T σ) (hk : Q .normal σf) (hm : P.follows .mixedOrders = true:=by kernel_rfl) (hsel : Region.noSelect ops = true:=by kernel_rfl)
  (hp : treeOk ops false ops.size T (Array.replicate ops.size false) = true:=by kernel_rfl) (hQ : PI Q:=by repeat (first | exact Aw.PI.fin | exact Aw.PI.finH | exact Aw.PI.round | refine Aw.PI.unblock ?_ | refine Aw.PI.andThen ?_)) (hnd : noDefers ops.toList = true:=by rfl) : AWT B r Θ P (.region id ops true) σ Q :=
 AWT.ofG hm hnd (AWG.drawTreeG T hsel hp hQ h hk)
end
section
variable {P : Program} {ds : List (Option Tmp)} {σ : St} {o : Oper} {K : St → Prop} {Kp : AV → St → Prop} {ob : Prop} {ops : Array Oper} {i : Nat} {t r : PT}
theorem awGuard.bsF {X : AV} {ty : TypeId} {n : Nat} {ps : Array (Nat × Operand)} (hg : o.guard = none) (ho : o.op = .buildSlice ty n ps) (h : ebuildF P σ ty n ps.toList = some (ob,X)) (hd : dstOk σ.n o.dst = true) (hob : ob) (he : effOp P σ o.op = none) (hK : K (σ.put o.dst X)) : awGuard P ds o σ K Kp:=by
 unfold awGuard
 rw [hg]
 simp only
 unfold awStep
 rw [show pureOp P σ true o.op = none by rw [ho]; rfl,he]
 intro m a N Q hS hN _
 obtain ⟨v,m',hrun,hle,hk,hH,hrep⟩:=ebuildF_sound hS ho h hob
 unfold Oper.wp
 rw [hrun]
 exact hN m' _ _ hle hk (hS.put hk hH hd hrep) .put .put hK
theorem awTree.fB {X : AV} {ty : TypeId} {n : Nat} {ps : Array (Nat × Operand)} (hk : awTree P ops K Kp t (σ.put o.dst X)) (hr : awTree P ops K Kp r σ) (ho : nth ops.toList i = some o:=by exact rfl) (hg : o.guard = none:=by exact rfl) (hop : o.op = .buildSlice ty n ps:=by exact rfl)
  (h : ebuildF P σ ty n ps.toList = some (ob,X):=by (simp only [go_sem,seval]; iterate 2 try (simp (disch:=omega) only [zq]; try simp only [go_sem,seval])); exact rfl) (hd : dstOk σ.n o.dst = true:=by (simp only [go_sem,seval]; iterate 2 try (simp (disch:=omega) only [zq]; try simp only [go_sem,seval]))) (hob : ob:=by ((try (simp only [go_sem,seval]; iterate 2 try (simp (disch:=omega) only [zq]; try simp only [go_sem,seval]))); try (first | exact True.intro | omega | (simp only [zb]; omega) | (simp; done) | (simp; omega) | (and_intros <;> first | assumption | omega | (simp; done) | (simp; omega))))) (he : effOp P σ o.op = none:=by (try (simp only [go_sem,seval]; iterate 2 try (simp (disch:=omega) only [zq]; try simp only [go_sem,seval]))) <;> (try exact rfl)) : awTree P ops K Kp (.fork i t r) σ :=
 ⟨⟨o,nth_ops ho,awGuard.bsF hg hop h hd hob he hk⟩,hr⟩
end
end Aw
