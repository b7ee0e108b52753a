/- Rules of a calculus of walks: no condition of its own. -/
import Derived.Test.YtlamdhcfojligaaGreatCore12
namespace Aw
open Go
section
variable {P : Program} {ds : List (Option Tmp)} {σ : St} {o : Oper} {K : St → Prop} {Kp : AV → St → Prop} {ob ob' ob'' b1 b2 b3 : Prop} {Q : AX → St → Prop} {c : Code}
theorem AW.tf (id : Nat) {sz : Nat} {es : List (List AV)} (h : ∀ sp : List (List AV),es.length ≤ sp.length → sp.take es.length = es → AW P c ⟨σ.n,σ.env,set σ.hp id (.full sz sp),σ.nx,σ.gl,σ.np,σ.df⟩ Q) (hg : get σ.hp id = some (.row sz es true):=by (simp only [go_sem,seval]; iterate 2 try (simp (disch:=omega) only [zq]; try simp only [go_sem,seval])); exact rfl) : AW P c σ Q :=
 AW.toFull id hg fun k=>h _ (by simp) (by simp)
theorem AW.drop (id : Nat) (h : AW P c ⟨σ.n,σ.env,del σ.hp id,σ.nx,σ.gl,σ.np,σ.df⟩ Q) : AW P c σ Q :=
 fun m a hS=>h m a ⟨hS.h.del id,hS.n,hS.defers,hS.env,hS.gl,hS.np⟩
theorem AW.uf (id k : Nat) {sz : Nat} {es : List (List AV)} (h : AW P c ⟨σ.n,σ.env,set σ.hp id (.row sz (es.take k) true),σ.nx,σ.gl,σ.np,σ.df⟩ Q) (hg : get σ.hp id = some (.full sz es):=by (simp only [go_sem,seval]; iterate 2 try (simp (disch:=omega) only [zq]; try simp only [go_sem,seval])); exact rfl) : AW P c σ Q:=AW.pre (St.le.unFull id k hg) h
theorem awGuard.fcr {x : Operand} {t e : TypeId} {i ei : TI} {id off len sz : Nat} {es : List (List AV)} {z : List AV} {c : Call} (hfit : off + len ≤ es.length) (hK : K (St.put ⟨σ.n,σ.env,set σ.hp id (.full sz (splice es off (rep len z))),σ.nx,σ.gl,σ.np,σ.df⟩ o.dst (.tup []))) (hg : o.guard = none:=by exact rfl) (ho : o.op = .call c:=by exact rfl) (hc : c.callee = .builtin .clear:=by exact rfl) (ha : c.args = #[x]:=by exact rfl) (ht : c.argTypes = #[t]:=by exact rfl)
  (hi : tinfo P t = some i:=by (simp only [go_sem,seval]; iterate 2 try (simp (disch:=omega) only [zq]; try simp only [go_sem,seval])); exact rfl) (hk : i.k = .slice e:=by exact rfl) (hei : tinfo P e = some ei:=by (simp only [go_sem,seval]; iterate 2 try (simp (disch:=omega) only [zq]; try simp only [go_sem,seval])); exact rfl) (hz : ei.zero = some z:=by exact rfl) (hzl : z.length = ei.sz:=by exact rfl) (hzo : z.all okCell = true:=by exact rfl) (hx : evE σ x = some (ob,.row id off len):=by (simp only [go_sem,seval]; iterate 2 try (simp (disch:=omega) only [zq]; try simp only [go_sem,seval])); exact rfl) (hob : ob:=by ((try (simp only [go_sem,seval]; iterate 2 try (simp (disch:=omega) only [zq]; try simp only [go_sem,seval]))); try (first | exact True.intro | omega | (simp only [zb]; omega) | (simp; done) | (simp; omega) | (and_intros <;> first | assumption | omega | (simp; done) | (simp; omega))))) (hp : get σ.hp id = some (.full sz es):=by (simp only [go_sem,seval]; iterate 2 try (simp (disch:=omega) only [zq]; try simp only [go_sem,seval])); exact rfl) (hsz : sz = ei.sz:=by exact rfl) (hd : dstOk σ.n o.dst = true:=by (simp only [go_sem,seval]; iterate 2 try (simp (disch:=omega) only [zq]; try simp only [go_sem,seval]))) : awGuard P ds o σ K Kp :=
 awGuard.fcl hg ho hc ha ht hi hk hei hsz hz hzl hzo hx hob hp hfit hd hK
end
attribute [go_sem] fsrc Int.sub_zero
end Aw
