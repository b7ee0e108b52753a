/- Rules of a calculus of walks: no condition of its own. -/
import Derived.Test.YtboaclfnjdhcpaaDoorCore13
namespace Aw
open Go
theorem AW.nilc {P : Program} {σ : St} {c : Code} {Q : AX → St → Prop} (id off : Nat) {cs : List AV} (k : AW P c ⟨σ.n,σ.env,set σ.hp id (.cells (cs.set off (.sl []))),σ.nx,σ.gl,σ.np,σ.df⟩ Q) (h : get σ.hp id = some (.cells cs):=by (simp only [go_sem,seval]; iterate 2 try (simp (disch:=omega) only [zq]; try simp only [go_sem,seval])); exact rfl) (hc : cs[off]? = some (.raw (.slice none 0 0)):=by exact rfl) : AW P c σ Q:=by
 refine AW.pre (σ':=⟨σ.n,σ.env,set σ.hp id (.cells (cs.set off (.sl []))),σ.nx,σ.gl,σ.np,σ.df⟩) (fun m a hS=>⟨m,rfl,.refl m,⟨?_,?_,hS.h.fresh,hS.h.Fold,hS.h.Pold⟩,hS.n,hS.defers,hS.env,hS.gl,hS.np⟩) k
 ·intro j x hx
  rw [get_set] at hx
  split at hx
  ·rename_i e
   subst e
   injection hx with hx
   subst hx
   obtain ⟨ri,hr,g1,g2,g3,c,T,g4,g5⟩:=hS.h.blk _ _ h
   refine ⟨ri,hr,g1,g2,g3,c,T,g4,RepL.set (x:=.raw (.slice none 0 0)) (fun v hv=>?_) g5 hc⟩
   simp only [Rep] at hv ⊢
   subst hv
   exact .inl ⟨trivial,_,_,rfl⟩
  ·exact hS.h.blk j x hx
 ·intro j j' x x' ri ri' hx hx' hr hr' hjj hn hn'
  have key : ∀ k y,get (set σ.hp id (.cells (cs.set off (.sl [])))) k = some y → ∃ z,get σ.hp k = some z:=by
   intro k y hy
   rw [get_set] at hy
   split at hy
   ·rename_i e
    subst e
    exact ⟨_,h⟩
   ·exact ⟨y,hy⟩
  obtain ⟨z,hz⟩:=key j x hx
  obtain ⟨z',hz'⟩:=key j' x' hx'
  exact hS.h.apart j j' z z' ri ri' hz hz' hr hr' hjj hn hn'
section
variable {κ : Type} [DecidableEq κ] {kind : TypeDesc} {V : κ → Value} {K : κ → AV} {P : Program} {ds : List (Option Tmp)} {σ : St} {o : Oper} {KK : St → Prop} {Kp : AV → St → Prop} {ob ob' ob'' : Prop}
theorem awGuard.mkS (hK : KeyOk kind V K) {t : TypeId} (h : KK (St.put ⟨σ.n,σ.env,set σ.hp σ.nx (setOf K []),σ.nx + 1,σ.gl,σ.np,σ.df⟩ o.dst (.map σ.nx))) (hg : o.guard = none:=by exact rfl) (ho : o.op = .makeMap t none:=by exact rfl) (hd : dstOk σ.n o.dst = true:=by (simp only [go_sem,seval]; iterate 2 try (simp (disch:=omega) only [zq]; try simp only [go_sem,seval]))) : awGuard P ds o σ KK Kp:=awGuard.mkm hK hg ho hd h
theorem awGuard.lkS (hK : KeyOk kind V K) {t kt et : TypeId} {i : TI} {x y : Operand} {id : Nat} {l : List κ} {k : κ} (h : KK (σ.put o.dst (.bool (decide (k ∈ l))))) (hg : o.guard = none:=by exact rfl) (ho : o.op = .lookup t x y false:=by exact rfl) (hi : tinfo P t = some i:=by (simp only [go_sem,seval]; iterate 2 try (simp (disch:=omega) only [zq]; try simp only [go_sem,seval])); exact rfl) (hk : i.k = .map kt et:=by exact rfl) (hkt : P.underlying kt = some kind:=by kernel_rfl) (hz : (P.info? et).map (·.zero) = some (some (.bool false)):=by kernel_rfl)
  (hx : evE σ x = some (ob,.map id):=by (simp only [go_sem,seval]; iterate 2 try (simp (disch:=omega) only [zq]; try simp only [go_sem,seval])); exact rfl) (hob : ob:=by ((try (simp only [go_sem,seval]; iterate 2 try (simp (disch:=omega) only [zq]; try simp only [go_sem,seval]))); try (first | exact True.intro | omega | (simp only [zb]; omega) | (simp; done) | (simp; omega) | (and_intros <;> first | assumption | omega | (simp; done) | (simp; omega))))) (hp : get σ.hp id = some (setOf K l):=by (simp only [go_sem,seval]; iterate 2 try (simp (disch:=omega) only [zq]; try simp only [go_sem,seval])); exact rfl) (hy : evE σ y = some (ob',K k):=by (simp only [go_sem,seval]; iterate 2 try (simp (disch:=omega) only [zq]; try simp only [go_sem,seval])); exact rfl) (hob' : ob':=by ((try (simp only [go_sem,seval]; iterate 2 try (simp (disch:=omega) only [zq]; try simp only [go_sem,seval]))); try (first | exact True.intro | omega | (simp only [zb]; omega) | (simp; done) | (simp; omega) | (and_intros <;> first | assumption | omega | (simp; done) | (simp; omega))))) (hd : dstOk σ.n o.dst = true:=by (simp only [go_sem,seval]; iterate 2 try (simp (disch:=omega) only [zq]; try simp only [go_sem,seval]))) : awGuard P ds o σ KK Kp:=awGuard.lks hK hg ho hi hk hkt hz hx hob hp hy hob' hd h
theorem awGuard.upS (hK : KeyOk kind V K) {t kt et : TypeId} {i : TI} {x y z : Operand} {id : Nat} {l : List κ} {k : κ} (h : KK (St.put ⟨σ.n,σ.env,set σ.hp id (setOf K (setAdd l k)),σ.nx,σ.gl,σ.np,σ.df⟩ o.dst (.raw undef))) (hg : o.guard = none:=by exact rfl) (ho : o.op = .mapUpdate t x y z:=by exact rfl) (hi : tinfo P t = some i:=by (simp only [go_sem,seval]; iterate 2 try (simp (disch:=omega) only [zq]; try simp only [go_sem,seval])); exact rfl) (hk : i.k = .map kt et:=by exact rfl) (hkt : P.underlying kt = some kind:=by kernel_rfl)
  (hx : evE σ x = some (ob,.map id):=by (simp only [go_sem,seval]; iterate 2 try (simp (disch:=omega) only [zq]; try simp only [go_sem,seval])); exact rfl) (hob : ob:=by ((try (simp only [go_sem,seval]; iterate 2 try (simp (disch:=omega) only [zq]; try simp only [go_sem,seval]))); try (first | exact True.intro | omega | (simp only [zb]; omega) | (simp; done) | (simp; omega) | (and_intros <;> first | assumption | omega | (simp; done) | (simp; omega))))) (hp : get σ.hp id = some (setOf K l):=by (simp only [go_sem,seval]; iterate 2 try (simp (disch:=omega) only [zq]; try simp only [go_sem,seval])); exact rfl) (hy : evE σ y = some (ob',K k):=by (simp only [go_sem,seval]; iterate 2 try (simp (disch:=omega) only [zq]; try simp only [go_sem,seval])); exact rfl) (hob' : ob':=by ((try (simp only [go_sem,seval]; iterate 2 try (simp (disch:=omega) only [zq]; try simp only [go_sem,seval]))); try (first | exact True.intro | omega | (simp only [zb]; omega) | (simp; done) | (simp; omega) | (and_intros <;> first | assumption | omega | (simp; done) | (simp; omega))))) (hz : evE σ z = some (ob'',.bool true):=by (simp only [go_sem,seval]; iterate 2 try (simp (disch:=omega) only [zq]; try simp only [go_sem,seval])); exact rfl) (hob'' : ob'':=by ((try (simp only [go_sem,seval]; iterate 2 try (simp (disch:=omega) only [zq]; try simp only [go_sem,seval]))); try (first | exact True.intro | omega | (simp only [zb]; omega) | (simp; done) | (simp; omega) | (and_intros <;> first | assumption | omega | (simp; done) | (simp; omega))))) (hd : dstOk σ.n o.dst = true:=by (simp only [go_sem,seval]; iterate 2 try (simp (disch:=omega) only [zq]; try simp only [go_sem,seval]))) : awGuard P ds o σ KK Kp:=awGuard.ups hK hg ho hi hk hkt hx hob hp hy hob' hz hob'' hd h
end
end Aw
