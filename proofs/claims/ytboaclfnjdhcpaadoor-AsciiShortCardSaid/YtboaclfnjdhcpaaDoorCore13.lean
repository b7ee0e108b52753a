/- Rules of a calculus of walks: no condition of its own. -/
import Derived.Test.YtboaclfnjdhcpaaDoorCore12
namespace Aw
open Go
section
variable {P : Program} {ds : List (Option Tmp)} {σ : St} {o : Oper} {K : St → Prop} {Kp : AV → St → Prop} {ob ob' ob'' b1 b2 b3 : Prop} {Q : AX → St → Prop} {c : Code}
theorem AW.tf (id : Nat) {sz : Nat} {es : List (List AV)} (h : ∀ sp : List (List AV),es.length ≤ sp.length → sp.take es.length = es → AW P c ⟨σ.n,σ.env,set σ.hp id (.full sz sp),σ.nx,σ.gl,σ.np,σ.df⟩ Q) (hg : get σ.hp id = some (.row sz es true):=by (simp only [go_sem,seval]; iterate 2 try (simp (disch:=omega) only [zq]; try simp only [go_sem,seval])); exact rfl) : AW P c σ Q :=
 AW.toFull id hg fun k=>h _ (by simp) (by simp)
theorem AW.drop (id : Nat) (h : AW P c ⟨σ.n,σ.env,del σ.hp id,σ.nx,σ.gl,σ.np,σ.df⟩ Q) : AW P c σ Q :=
 fun m a hS=>h m a ⟨hS.h.del id,hS.n,hS.defers,hS.env,hS.gl,hS.np⟩
theorem AW.uf (id k : Nat) {sz : Nat} {es : List (List AV)} (h : AW P c ⟨σ.n,σ.env,set σ.hp id (.row sz (es.take k) true),σ.nx,σ.gl,σ.np,σ.df⟩ Q) (hg : get σ.hp id = some (.full sz es):=by (simp only [go_sem,seval]; iterate 2 try (simp (disch:=omega) only [zq]; try simp only [go_sem,seval])); exact rfl) : AW P c σ Q:=AW.pre (St.le.unFull id k hg) h
theorem AW.rnm (t : Nat) {id off len : Nat} {blk : ABlk} (k : AW P c ⟨σ.n,set σ.env t (.row σ.nx off len),set (del σ.hp id) σ.nx blk,σ.nx + 1,σ.gl,σ.np,σ.df⟩ Q) (h : get σ.env t = some (.row id off len):=by (simp only [go_sem,seval]; iterate 2 try (simp (disch:=omega) only [zq]; try simp only [go_sem,seval])); exact rfl) (hg : get σ.hp id = some blk:=by (simp only [go_sem,seval]; iterate 2 try (simp (disch:=omega) only [zq]; try simp only [go_sem,seval])); exact rfl) : AW P c σ Q:=AW.pre (St.le.renum t h hg) k
theorem awGuard.gF (y : AV) {p : Nat × Bool} {g : Bool} {f : FuncId} {ys : List AV} (hf : g = false) (hK : K (σ.put o.dst (.opt g y))) (hg : o.guard = some p:=by exact rfl) (hgv : gAt ds σ p.1 p.2 = some g:=by (simp only [go_sem,seval]; iterate 2 try (simp (disch:=omega) only [zq]; try simp only [go_sem,seval])); exact rfl) (h : acall σ o.op = some (ob,f,ys):=by (simp only [go_sem,seval]; iterate 2 try (simp (disch:=omega) only [zq]; try simp only [go_sem,seval])); exact rfl) (hd : dstOk σ.n o.dst = true:=by (simp only [go_sem,seval]; iterate 2 try (simp (disch:=omega) only [zq]; try simp only [go_sem,seval]))) : awGuard P ds o σ K Kp:=by
 unfold awGuard
 rw [hg]
 simp only
 rw [hgv]
 simp only
 rw [(acall_pure h).1]
 simp only
 exact .inr ⟨y,hd,(fun ht=>by rw [hf] at ht; cases ht),hK⟩
theorem awGuard.fcp {x : Operand} {t e : TypeId} {i : TI} {id off len sz : Nat} {es : List (List AV)} {c : Call} (hK : K (σ.put o.dst (.int .i64 ((es.length : Int) - off)))) (hg : o.guard = none:=by exact rfl) (ho : o.op = .call c:=by exact rfl) (hc : c.callee = .builtin .cap:=by exact rfl) (ha : c.args = #[x]:=by exact rfl) (ht : c.argTypes = #[t]:=by exact rfl)
  (hi : tinfo P t = some i:=by (simp only [go_sem,seval]; iterate 2 try (simp (disch:=omega) only [zq]; try simp only [go_sem,seval])); exact rfl) (hk : i.k = .slice e:=by exact rfl) (hx : evE σ x = some (ob,.row id off len):=by (simp only [go_sem,seval]; iterate 2 try (simp (disch:=omega) only [zq]; try simp only [go_sem,seval])); exact rfl) (hob : ob:=by ((try (simp only [go_sem,seval]; iterate 2 try (simp (disch:=omega) only [zq]; try simp only [go_sem,seval]))); try (first | exact True.intro | omega | (simp only [zb]; omega) | (simp; done) | (simp; omega) | (and_intros <;> first | assumption | omega | (simp; done) | (simp; omega))))) (hp : get σ.hp id = some (.full sz es):=by (simp only [go_sem,seval]; iterate 2 try (simp (disch:=omega) only [zq]; try simp only [go_sem,seval])); exact rfl) (hd : dstOk σ.n o.dst = true:=by (simp only [go_sem,seval]; iterate 2 try (simp (disch:=omega) only [zq]; try simp only [go_sem,seval]))) : awGuard P ds o σ K Kp :=
 awGuard.fcap hg ho hc ha ht hi hk hx hob hp hd hK
theorem awGuard.s3 {x lo hi mx : Operand} {t e : TypeId} {i ei : TI} {id off len sz : Nat} {es : List (List AV)} {own : Bool} {l h k : Int} {k1 k2 k3 : IntKind} (hle : 0 ≤ l ∧ l ≤ h ∧ h ≤ k ∧ k ≤ (len : Int)) (hK : K (σ.put o.dst .top)) (hg : o.guard = none:=by exact rfl) (ho : o.op = .slice t x (some lo) (some hi) (some mx):=by exact rfl)
  (hi' : tinfo P t = some i:=by (simp only [go_sem,seval]; iterate 2 try (simp (disch:=omega) only [zq]; try simp only [go_sem,seval])); exact rfl) (hk : i.k = .slice e:=by exact rfl) (hei : tinfo P e = some ei:=by (simp only [go_sem,seval]; iterate 2 try (simp (disch:=omega) only [zq]; try simp only [go_sem,seval])); exact rfl) (hx : evE σ x = some (ob,.row id off len):=by (simp only [go_sem,seval]; iterate 2 try (simp (disch:=omega) only [zq]; try simp only [go_sem,seval])); exact rfl) (hob : ob:=by ((try (simp only [go_sem,seval]; iterate 2 try (simp (disch:=omega) only [zq]; try simp only [go_sem,seval]))); try (first | exact True.intro | omega | (simp only [zb]; omega) | (simp; done) | (simp; omega) | (and_intros <;> first | assumption | omega | (simp; done) | (simp; omega))))) (hl : evE σ lo = some (b1,.int k1 l):=by (simp only [go_sem,seval]; iterate 2 try (simp (disch:=omega) only [zq]; try simp only [go_sem,seval])); exact rfl) (hh : evE σ hi = some (b2,.int k2 h):=by (simp only [go_sem,seval]; iterate 2 try (simp (disch:=omega) only [zq]; try simp only [go_sem,seval])); exact rfl) (hm : evE σ mx = some (b3,.int k3 k):=by (simp only [go_sem,seval]; iterate 2 try (simp (disch:=omega) only [zq]; try simp only [go_sem,seval])); exact rfl)
  (h1 : b1:=by ((try (simp only [go_sem,seval]; iterate 2 try (simp (disch:=omega) only [zq]; try simp only [go_sem,seval]))); try (first | exact True.intro | omega | (simp only [zb]; omega) | (simp; done) | (simp; omega) | (and_intros <;> first | assumption | omega | (simp; done) | (simp; omega))))) (h2 : b2:=by ((try (simp only [go_sem,seval]; iterate 2 try (simp (disch:=omega) only [zq]; try simp only [go_sem,seval]))); try (first | exact True.intro | omega | (simp only [zb]; omega) | (simp; done) | (simp; omega) | (and_intros <;> first | assumption | omega | (simp; done) | (simp; omega))))) (h3 : b3:=by ((try (simp only [go_sem,seval]; iterate 2 try (simp (disch:=omega) only [zq]; try simp only [go_sem,seval]))); try (first | exact True.intro | omega | (simp only [zb]; omega) | (simp; done) | (simp; omega) | (and_intros <;> first | assumption | omega | (simp; done) | (simp; omega))))) (hp : get σ.hp id = some (.row sz es own):=by (simp only [go_sem,seval]; iterate 2 try (simp (disch:=omega) only [zq]; try simp only [go_sem,seval])); exact rfl) (hd : dstOk σ.n o.dst = true:=by (simp only [go_sem,seval]; iterate 2 try (simp (disch:=omega) only [zq]; try simp only [go_sem,seval]))) : awGuard P ds o σ K Kp :=
 awGuard.sl3 hg ho hi' hk hei hx hob hl hh hm h1 h2 h3 hp hle hd hK
theorem awGuard.cpR {x y : Operand} {t u e : TypeId} {i ei : TI} {id off len id2 off2 len2 sz : Nat} {es src : List (List AV)} {c : Call} (n : Nat) (hn : n = min len2 len) (hle : off + n ≤ es.length) (hob' : ob') (hK : K (St.put ⟨σ.n,σ.env,set σ.hp id (.row sz (splice es off src) true),σ.nx,σ.gl,σ.np,σ.df⟩ o.dst (.int .i64 (n : Nat)))) (hg : o.guard = none:=by exact rfl) (ho : o.op = .call c:=by exact rfl) (hc : c.callee = .builtin .copy:=by exact rfl) (ha : c.args = #[x,y]:=by exact rfl) (ht : c.argTypes = #[t,u]:=by exact rfl)
  (hi : tinfo P t = some i:=by (simp only [go_sem,seval]; iterate 2 try (simp (disch:=omega) only [zq]; try simp only [go_sem,seval])); exact rfl) (hk : i.k = .slice e:=by exact rfl) (hei : tinfo P e = some ei:=by (simp only [go_sem,seval]; iterate 2 try (simp (disch:=omega) only [zq]; try simp only [go_sem,seval])); exact rfl) (hx : evE σ x = some (ob,.row id off len):=by (simp only [go_sem,seval]; iterate 2 try (simp (disch:=omega) only [zq]; try simp only [go_sem,seval])); exact rfl) (hob : ob:=by ((try (simp only [go_sem,seval]; iterate 2 try (simp (disch:=omega) only [zq]; try simp only [go_sem,seval]))); try (first | exact True.intro | omega | (simp only [zb]; omega) | (simp; done) | (simp; omega) | (and_intros <;> first | assumption | omega | (simp; done) | (simp; omega))))) (hp : get σ.hp id = some (.row sz es true):=by (simp only [go_sem,seval]; iterate 2 try (simp (disch:=omega) only [zq]; try simp only [go_sem,seval])); exact rfl) (hsz : sz = ei.sz:=by exact rfl) (hy : evE σ y = some (ob'',.row id2 off2 len2):=by (simp only [go_sem,seval]; iterate 2 try (simp (disch:=omega) only [zq]; try simp only [go_sem,seval])); exact rfl) (hq : ob'':=by ((try (simp only [go_sem,seval]; iterate 2 try (simp (disch:=omega) only [zq]; try simp only [go_sem,seval]))); try (first | exact True.intro | omega | (simp only [zb]; omega) | (simp; done) | (simp; omega) | (and_intros <;> first | assumption | omega | (simp; done) | (simp; omega)))))
  (hs : fsrc σ.hp ei.sz (.row id2 off2 n) = some (ob',src):=by (simp only [go_sem,seval]; iterate 2 try (simp (disch:=omega) only [zq]; try simp only [go_sem,seval])); exact rfl) (hd : dstOk σ.n o.dst = true:=by (simp only [go_sem,seval]; iterate 2 try (simp (disch:=omega) only [zq]; try simp only [go_sem,seval]))) : awGuard P ds o σ K Kp :=
 awGuard.cpy (b:=false) hg ho hc ha ht hi hk hei hsz hx hob hp hle hy hq hn hs hob' hd hK
theorem awGuard.cpF {x y : Operand} {t u e : TypeId} {i ei : TI} {id off len id2 off2 len2 sz : Nat} {es src : List (List AV)} {c : Call} (n : Nat) (hn : n = min len2 len) (hle : off + n ≤ es.length) (hob' : ob') (hK : K (St.put ⟨σ.n,σ.env,set σ.hp id (.full sz (splice es off src)),σ.nx,σ.gl,σ.np,σ.df⟩ o.dst (.int .i64 (n : Nat)))) (hg : o.guard = none:=by exact rfl) (ho : o.op = .call c:=by exact rfl) (hc : c.callee = .builtin .copy:=by exact rfl) (ha : c.args = #[x,y]:=by exact rfl) (ht : c.argTypes = #[t,u]:=by exact rfl)
  (hi : tinfo P t = some i:=by (simp only [go_sem,seval]; iterate 2 try (simp (disch:=omega) only [zq]; try simp only [go_sem,seval])); exact rfl) (hk : i.k = .slice e:=by exact rfl) (hei : tinfo P e = some ei:=by (simp only [go_sem,seval]; iterate 2 try (simp (disch:=omega) only [zq]; try simp only [go_sem,seval])); exact rfl) (hx : evE σ x = some (ob,.row id off len):=by (simp only [go_sem,seval]; iterate 2 try (simp (disch:=omega) only [zq]; try simp only [go_sem,seval])); exact rfl) (hob : ob:=by ((try (simp only [go_sem,seval]; iterate 2 try (simp (disch:=omega) only [zq]; try simp only [go_sem,seval]))); try (first | exact True.intro | omega | (simp only [zb]; omega) | (simp; done) | (simp; omega) | (and_intros <;> first | assumption | omega | (simp; done) | (simp; omega))))) (hp : get σ.hp id = some (.full sz es):=by (simp only [go_sem,seval]; iterate 2 try (simp (disch:=omega) only [zq]; try simp only [go_sem,seval])); exact rfl) (hsz : sz = ei.sz:=by exact rfl) (hy : evE σ y = some (ob'',.row id2 off2 len2):=by (simp only [go_sem,seval]; iterate 2 try (simp (disch:=omega) only [zq]; try simp only [go_sem,seval])); exact rfl) (hq : ob'':=by ((try (simp only [go_sem,seval]; iterate 2 try (simp (disch:=omega) only [zq]; try simp only [go_sem,seval]))); try (first | exact True.intro | omega | (simp only [zb]; omega) | (simp; done) | (simp; omega) | (and_intros <;> first | assumption | omega | (simp; done) | (simp; omega)))))
  (hs : fsrc σ.hp ei.sz (.row id2 off2 n) = some (ob',src):=by (simp only [go_sem,seval]; iterate 2 try (simp (disch:=omega) only [zq]; try simp only [go_sem,seval])); exact rfl) (hd : dstOk σ.n o.dst = true:=by (simp only [go_sem,seval]; iterate 2 try (simp (disch:=omega) only [zq]; try simp only [go_sem,seval]))) : awGuard P ds o σ K Kp :=
 awGuard.cpy (b:=true) hg ho hc ha ht hi hk hei hsz hx hob hp hle hy hq hn hs hob' hd hK
theorem awGuard.apF {x y : Operand} {t u e : TypeId} {i xi ei : TI} {id off len sz : Nat} {es src : List (List AV)} {c : Call} {q : Prop × AV} (hob' : ob') (hfit : off + len + src.length ≤ es.length) (hK : K (St.put ⟨σ.n,σ.env,set σ.hp id (.full sz (splice es (off + len) src)),σ.nx,σ.gl,σ.np,σ.df⟩ o.dst (.row id off (len + src.length)))) (hg : o.guard = none:=by exact rfl) (ho : o.op = .call c:=by exact rfl) (hc : c.callee = .builtin .append:=by exact rfl) (ha : c.args = #[x,y]:=by exact rfl) (ht : c.argTypes = #[t,u]:=by exact rfl)
  (hi : tinfo P t = some i:=by (simp only [go_sem,seval]; iterate 2 try (simp (disch:=omega) only [zq]; try simp only [go_sem,seval])); exact rfl) (hk : i.k = .slice e:=by exact rfl) (hxi : tinfo P u = some xi:=by (simp only [go_sem,seval]; iterate 2 try (simp (disch:=omega) only [zq]; try simp only [go_sem,seval])); exact rfl) (hxk : isSrcK xi.k = true:=by exact rfl) (hei : tinfo P e = some ei:=by (simp only [go_sem,seval]; iterate 2 try (simp (disch:=omega) only [zq]; try simp only [go_sem,seval])); exact rfl) (hx : evE σ x = some (ob,.row id off len):=by (simp only [go_sem,seval]; iterate 2 try (simp (disch:=omega) only [zq]; try simp only [go_sem,seval])); exact rfl) (hob : ob:=by ((try (simp only [go_sem,seval]; iterate 2 try (simp (disch:=omega) only [zq]; try simp only [go_sem,seval]))); try (first | exact True.intro | omega | (simp only [zb]; omega) | (simp; done) | (simp; omega) | (and_intros <;> first | assumption | omega | (simp; done) | (simp; omega))))) (hp : get σ.hp id = some (.full sz es):=by (simp only [go_sem,seval]; iterate 2 try (simp (disch:=omega) only [zq]; try simp only [go_sem,seval])); exact rfl) (hsz : sz = ei.sz:=by exact rfl)
  (hy : evE σ y = some q:=by (simp only [go_sem,seval]; iterate 2 try (simp (disch:=omega) only [zq]; try simp only [go_sem,seval])); exact rfl) (hq : q.1:=by ((try (simp only [go_sem,seval]; iterate 2 try (simp (disch:=omega) only [zq]; try simp only [go_sem,seval]))); try (first | exact True.intro | omega | (simp only [zb]; omega) | (simp; done) | (simp; omega) | (and_intros <;> first | assumption | omega | (simp; done) | (simp; omega))))) (hs : fsrc σ.hp ei.sz q.2 = some (ob',src):=by (simp only [go_sem,seval]; iterate 2 try (simp (disch:=omega) only [zq]; try simp only [go_sem,seval])); exact rfl) (hd : dstOk σ.n o.dst = true:=by (simp only [go_sem,seval]; iterate 2 try (simp (disch:=omega) only [zq]; try simp only [go_sem,seval]))) (h2 : effOp P σ o.op = none:=by (simp only [go_sem,seval]; iterate 2 try (simp (disch:=omega) only [zq]; try simp only [go_sem,seval]))) : awGuard P ds o σ K Kp :=
 awGuard.fai hg ho hc ha ht hi hk hxi hxk hei hsz hx hob hp hy hq hs hob' hfit hd h2 hK
theorem awGuard.fcr {x : Operand} {t e : TypeId} {i ei : TI} {id off len sz : Nat} {es : List (List AV)} {z : List AV} {c : Call} (hfit : off + len ≤ es.length) (hK : K (St.put ⟨σ.n,σ.env,set σ.hp id (.full sz (splice es off (rep len z))),σ.nx,σ.gl,σ.np,σ.df⟩ o.dst (.tup []))) (hg : o.guard = none:=by exact rfl) (ho : o.op = .call c:=by exact rfl) (hc : c.callee = .builtin .clear:=by exact rfl) (ha : c.args = #[x]:=by exact rfl) (ht : c.argTypes = #[t]:=by exact rfl)
  (hi : tinfo P t = some i:=by (simp only [go_sem,seval]; iterate 2 try (simp (disch:=omega) only [zq]; try simp only [go_sem,seval])); exact rfl) (hk : i.k = .slice e:=by exact rfl) (hei : tinfo P e = some ei:=by (simp only [go_sem,seval]; iterate 2 try (simp (disch:=omega) only [zq]; try simp only [go_sem,seval])); exact rfl) (hz : ei.zero = some z:=by exact rfl) (hzl : z.length = ei.sz:=by exact rfl) (hzo : z.all okCell = true:=by exact rfl) (hx : evE σ x = some (ob,.row id off len):=by (simp only [go_sem,seval]; iterate 2 try (simp (disch:=omega) only [zq]; try simp only [go_sem,seval])); exact rfl) (hob : ob:=by ((try (simp only [go_sem,seval]; iterate 2 try (simp (disch:=omega) only [zq]; try simp only [go_sem,seval]))); try (first | exact True.intro | omega | (simp only [zb]; omega) | (simp; done) | (simp; omega) | (and_intros <;> first | assumption | omega | (simp; done) | (simp; omega))))) (hp : get σ.hp id = some (.full sz es):=by (simp only [go_sem,seval]; iterate 2 try (simp (disch:=omega) only [zq]; try simp only [go_sem,seval])); exact rfl) (hsz : sz = ei.sz:=by exact rfl) (hd : dstOk σ.n o.dst = true:=by (simp only [go_sem,seval]; iterate 2 try (simp (disch:=omega) only [zq]; try simp only [go_sem,seval]))) : awGuard P ds o σ K Kp :=
 awGuard.fcl hg ho hc ha ht hi hk hei hsz hz hzl hzo hx hob hp hfit hd hK
theorem awGuard.fzr {x y : Operand} {t u e : TypeId} {i xi ei : TI} {id off len sz : Nat} {es : List (List AV)} {z : List AV} {ki : IntKind} {c : Call} {v : Int} (n : Nat) (hv : v = (n : Int)) (hn0 : 1 ≤ n) (hfit : off + len ≤ es.length) (hfull : es.length < off + len + n) (hr : room (len + n) ei.bytes)
  (hK : K (St.put ⟨σ.n,σ.env,set σ.hp σ.nx (.row ei.sz ((es.drop off).take len ++ rep n z) true),σ.nx + 1,σ.gl,σ.np,σ.df⟩ o.dst (.row σ.nx 0 (len + n)))) (hg : o.guard = none:=by exact rfl) (ho : o.op = .call c:=by exact rfl) (hc : c.callee = .builtin .append:=by exact rfl) (ha : c.args = #[x,y]:=by exact rfl) (ht : c.argTypes = #[t,u]:=by exact rfl)
  (hi : tinfo P t = some i:=by (simp only [go_sem,seval]; iterate 2 try (simp (disch:=omega) only [zq]; try simp only [go_sem,seval])); exact rfl) (hk : i.k = .slice e:=by exact rfl) (hxi : tinfo P u = some xi:=by (simp only [go_sem,seval]; iterate 2 try (simp (disch:=omega) only [zq]; try simp only [go_sem,seval])); exact rfl) (hxk : xi.k = .int ki:=by exact rfl) (hei : tinfo P e = some ei:=by (simp only [go_sem,seval]; iterate 2 try (simp (disch:=omega) only [zq]; try simp only [go_sem,seval])); exact rfl) (hsz0 : 1 ≤ ei.sz:=by decide) (hb : 1 ≤ ei.bytes:=by decide) (hb' : ei.bytes ≤ 4294967296:=by decide) (hz : ei.zero = some z:=by exact rfl) (hzl : z.length = ei.sz:=by exact rfl)
  (hx : evE σ x = some (ob,.row id off len):=by (simp only [go_sem,seval]; iterate 2 try (simp (disch:=omega) only [zq]; try simp only [go_sem,seval])); exact rfl) (hob : ob:=by ((try (simp only [go_sem,seval]; iterate 2 try (simp (disch:=omega) only [zq]; try simp only [go_sem,seval]))); try (first | exact True.intro | omega | (simp only [zb]; omega) | (simp; done) | (simp; omega) | (and_intros <;> first | assumption | omega | (simp; done) | (simp; omega))))) (hp : get σ.hp id = some (.full sz es):=by (simp only [go_sem,seval]; iterate 2 try (simp (disch:=omega) only [zq]; try simp only [go_sem,seval])); exact rfl) (hsz : sz = ei.sz:=by exact rfl) (hy : evE σ y = some (ob'',.int .i64 v):=by (simp only [go_sem,seval]; iterate 2 try (simp (disch:=omega) only [zq]; try simp only [go_sem,seval])); exact rfl) (hq : ob'':=by ((try (simp only [go_sem,seval]; iterate 2 try (simp (disch:=omega) only [zq]; try simp only [go_sem,seval]))); try (first | exact True.intro | omega | (simp only [zb]; omega) | (simp; done) | (simp; omega) | (and_intros <;> first | assumption | omega | (simp; done) | (simp; omega))))) (hd : dstOk σ.n o.dst = true:=by (simp only [go_sem,seval]; iterate 2 try (simp (disch:=omega) only [zq]; try simp only [go_sem,seval]))) (h2 : effOp P σ o.op = none:=by (simp only [go_sem,seval]; iterate 2 try (simp (disch:=omega) only [zq]; try simp only [go_sem,seval]))) : awGuard P ds o σ K Kp :=
 awGuard.faz hg ho hc ha ht hi hk hxi hxk hei hsz hsz0 hb hb' hz hzl hx hob hp (by rw [← hv]; exact hy) hq hn0 hfit hfull hr hd h2 hK
theorem awGuard.ovr {f : FuncId} {fn : Func} {tS tR e : TypeId} {ei : TI} {id off len sz id2 off2 len2 : Nat} {es es2 : List (List AV)} (hf : P.funcs[f]? = some fn) (hle : off + len ≤ es.length) (hK : K (σ.put o.dst (.bool false))) (hg : o.guard = none:=by exact rfl) (h : acall σ o.op = some (ob,f,[.row id off len,.row id2 off2 len2]):=by (simp only [go_sem,seval]; iterate 2 try (simp (disch:=omega) only [zq]; try simp only [go_sem,seval])); exact rfl) (hob : ob:=by ((try (simp only [go_sem,seval]; iterate 2 try (simp (disch:=omega) only [zq]; try simp only [go_sem,seval]))); try (first | exact True.intro | omega | (simp only [zb]; omega) | (simp; done) | (simp; omega) | (and_intros <;> first | assumption | omega | (simp; done) | (simp; omega)))))
  (hname : (fn.name == "runtime.NumGoroutine") = false := by kernel_rfl) (hb : fn.body.isNone = true := by kernel_rfl) (hn : Extern.findNext fn = none := by kernel_rfl) (he : Extern.find fn = some (Extern.SlicesOverlaps.overlaps #[tS, tS] #[tR]) := by kernel_rfl) (ht : P.underlying tS = some (.slice e) := by kernel_rfl) (hei : tinfo P e = some ei := by (simp only [go_sem, seval]; iterate 2 try (simp (disch := omega) only [zq]; try simp only [go_sem, seval])); exact rfl)
  (hp : get σ.hp id = some (.row sz es true):=by (simp only [go_sem,seval]; iterate 2 try (simp (disch:=omega) only [zq]; try simp only [go_sem,seval])); exact rfl) (hp2 : get σ.hp id2 = some (.full sz es2):=by (simp only [go_sem,seval]; iterate 2 try (simp (disch:=omega) only [zq]; try simp only [go_sem,seval])); exact rfl) (hne : id ≠ id2:=by decide) (hd : dstOk σ.n o.dst = true:=by (simp only [go_sem,seval]; iterate 2 try (simp (disch:=omega) only [zq]; try simp only [go_sem,seval]))) : awGuard P ds o σ K Kp :=
 awGuard.ovl hf hg h hob hname hb hn he ht hei hp hp2 hne hle hd hK
end
attribute [go_sem] fsrc Int.sub_zero
end Aw

namespace Aw
open Go
def setAdd {α : Type} [DecidableEq α] (l : List α) (x : α) : List α:=if x ∈ l then l else l ++ [x]
theorem mem_setAdd {α : Type} [DecidableEq α] {l : List α} {x y : α} : y ∈ setAdd l x ↔ y ∈ l ∨ y = x:=by
 unfold setAdd
 split
 ·rename_i h
  exact ⟨.inl,fun h'=>h'.elim id fun e=>e ▸ h⟩
 ·simp

theorem run_newObj {P : Program} {w : World} {o : Obj} : (newObj o).run P w = .ok w.heap.size { w with heap:=w.heap.push o }:=rfl
theorem run_getMap {P : Program} {w : World} {b : Nat} {es : Array MapEntry} {c : Nat} (h : w.heap[b]? = some (.map es c)) : (getObj b).run P w = .ok (.map es c) w:=by
 simp only [getObj,Sem.run,h]
theorem run_setMap {P : Program} {w : World} {b : Nat} {es es' : Array MapEntry} {c c' : Nat} (h : w.heap[b]? = some (.map es c)) : (setObj b (.map es' c')).run P w = .ok () (wset w b (.map es' c')):=by
 simp only [setObj,Sem.run,h,wset]

structure KeyOk {κ : Type} [DecidableEq κ] (kind : TypeDesc) (V : κ → Value) (K : κ → AV) : Prop where
 rep : ∀ (m : Mem) (k : Nat) (a : κ) (v : Value),Rep m k (K a) v ↔ v = V a
 same : ∀ a b,Instr.sameNow kind (V a) (V b) = some (decide (a = b))
 bits : ∀ a,Instr.sameBits 10000 (V a) (V a) = true
 plain : ∀ (P : Program) (t : TypeId) (w : World) (e : Bool) (a : κ),P.underlying t = some kind → (Instr.checkKey e 10000 t (V a)).run P w = .ok () w
theorem bytes_beq (a b : List UInt8) : ((⟨a.toArray⟩ : ByteArray) == ⟨b.toArray⟩) = decide (a = b):=by
 have h : ((⟨a.toArray⟩ : ByteArray) == ⟨b.toArray⟩) = (a.toArray == b.toArray):=rfl
 rw [h,Bool.eq_iff_iff,beq_iff_eq,decide_eq_true_eq]
 simp
theorem keyOk_str : KeyOk .string (fun s : List UInt8=>.string ⟨s.toArray⟩) .str where
 rep m k a v:=by simp only [Rep]
 same a b:=by
  simp only [Instr.sameNow,bytes_beq]
 bits a:=by simp [Instr.sameBits,bytes_beq]
 plain P t w e a h:=by
  rw [show (10000 : Nat) = 9999 + 1 from rfl,Instr.checkKey]
  simp only [underlying,program,bind,Sem.bind,Sem.run,h,pure]
theorem keyOk_int (k : IntKind) : KeyOk (.int k) (fun n : Int=>.int k n) (.int k) where
 rep m _ a v:=by simp only [Rep]
 same a b:=by
  simp only [Instr.sameNow,if_true,Option.some.injEq]
  rw [Bool.eq_iff_iff,beq_iff_eq,decide_eq_true_eq]
 bits a:=by simp [Instr.sameBits]
 plain P t w e a h:=by
  rw [show (10000 : Nat) = 9999 + 1 from rfl,Instr.checkKey]
  simp only [underlying,program,bind,Sem.bind,Sem.run,h,pure]
section
variable {κ : Type} [DecidableEq κ] {kind : TypeDesc} {V : κ → Value} {K : κ → AV}
theorem KeyOk.list (hK : KeyOk kind V K) {m : Mem} {k : Nat} : ∀ {l : List κ} {vs : List Value},RepL m k (l.map K) vs ↔ vs = l.map V
 | [],vs=>by simp [RepL]
 | a :: l,vs=>by
  simp only [List.map_cons,RepL,hK.rep]
  constructor
  ·rintro ⟨v,rest,rfl,rfl,h⟩
   rw [(KeyOk.list hK).1 h]
  ·rintro rfl
   exact ⟨_,_,rfl,rfl,(KeyOk.list hK).2 rfl⟩
theorem KeyOk.inj (hK : KeyOk kind V K) {a b : κ} (h : V a = V b) : a = b:=by
 have h1:=hK.same a a
 have h2:=hK.same a b
 rw [← h,h1] at h2
 simpa using h2
theorem find_no (hK : KeyOk kind V K) {k : κ} : ∀ {l : List κ} {es : List MapEntry} {i : Nat},es.map (·.key) = l.map V → k ∉ l → Instr.findNow kind (V k) es i = some none
 | [],[],i,_,_=>rfl
 | [],_ :: _,i,h,_=>by simp at h
 | _ :: _,[],i,h,_=>by simp at h
 | a :: l,e :: es,i,h,hn=>by
  simp only [List.map_cons,List.cons.injEq] at h
  simp only [List.mem_cons,not_or] at hn
  rw [Instr.findNow,h.1,hK.same,decide_eq_false hn.1]
  exact find_no hK h.2 hn.2
theorem find_yes (hK : KeyOk kind V K) {k : κ} : ∀ {l : List κ} {es : List MapEntry} {i : Nat},es.map (·.key) = l.map V → k ∈ l → ∃ j e,Instr.findNow kind (V k) es i = some (some (i + j,e.val)) ∧ es[j]? = some e ∧ l[j]? = some k
 | [],_,i,_,hn=>by cases hn
 | _ :: _,[],i,h,_=>by simp at h
 | a :: l,e :: es,i,h,hn=>by
  simp only [List.map_cons,List.cons.injEq] at h
  rw [Instr.findNow,h.1,hK.same]
  by_cases hka : k = a
  ·subst hka
   exact ⟨0,e,by simp,rfl,rfl⟩
  ·rw [decide_eq_false hka]
   have hn' : k ∈ l:=by
    rcases List.mem_cons.1 hn with h | h
    ·exact absurd h hka
    ·exact h
   obtain ⟨j,e',h1,h2,h3⟩:=find_yes hK (i:=i + 1) h.2 hn'
   exact ⟨j + 1,e',by simp only [h1]; rw [show i + 1 + j = i + (j + 1) from by omega],by simpa using h2,by simpa using h3⟩

variable {P : Program} {ds : List (Option Tmp)} {σ : St} {o : Oper} {KK : St → Prop} {Kp : AV → St → Prop} {ob ob' : Prop}
def setOf (K : κ → AV) (l : List κ) : ABlk:=.amap (l.map K) (l.map fun _=>.bool true)
theorem renB_setOf {κ : Type} (π : Nat → Nat) (K : κ → AV) (l : List κ) : renB π (setOf K l) = setOf K l:=rfl
theorem trues {κ : Type} {m : Mem} {k : Nat} : ∀ {l : List κ} {vs : List Value},RepL m k (l.map fun _=>AV.bool true) vs ↔ vs = l.map fun _=>.bool true
 | [],vs=>by simp [RepL]
 | a :: l,vs=>by
  simp only [List.map_cons,RepL,Rep]
  constructor
  ·rintro ⟨v,rest,rfl,rfl,h⟩
   rw [trues.1 h]
  ·rintro rfl
   exact ⟨_,_,rfl,rfl,trues.2 rfl⟩
theorem set_blk (hK : KeyOk kind V K) {m : Mem} {ri : RI} {l : List κ} (h : BlkRep m ri (setOf K l)) :
  ri.isNil = false ∧ ¬ m.Pr ri.b ∧ (∀ o,¬ m.F ri.b o) ∧ ∃ es clock,m.w.heap[ri.b]? = some (.map es clock) ∧ es.toList.map (·.key) = l.map V ∧ (es.toList.map (·.val) = l.map fun _=>.bool true) ∧ MapKept.Stamped es clock:=by
 obtain ⟨h1,h2,h3,kv,vv,es,clock,h4,h5,h6,h7⟩:=h
 rw [hK.list] at h6
 rw [trues] at h7
 subst h6 h7
 exact ⟨h1,h2,h3,es,clock,h4,h5.1,h5.2.1,h5.2.2⟩
theorem blk_set (hK : KeyOk kind V K) {m : Mem} {ri : RI} {l : List κ} (h1 : ri.isNil = false) (h2 : ¬ m.Pr ri.b) (h3 : ∀ o,¬ m.F ri.b o) {es : Array MapEntry} {clock : Nat} (h4 : m.w.heap[ri.b]? = some (.map es clock)) (h5 : es.toList.map (·.key) = l.map V) (h6 : es.toList.map (·.val) = l.map fun _=>.bool true) (h7 : MapKept.Stamped es clock) :
  BlkRep m ri (setOf K l):=⟨h1,h2,h3,_,_,es,clock,h4,⟨rfl,rfl,h7⟩,by rw [h5]; exact hK.list.2 rfl,by rw [h6]; exact trues.2 rfl⟩

theorem mkmap_sound (hK : KeyOk kind V K) {t : TypeId} (ho : o.op = .makeMap t none) {m : Mem} {a : Act} (hS : Sim m a σ) : EffOk P m a o ⟨True,.map σ.nx,set σ.hp σ.nx (setOf K []),σ.nx + 1⟩:=by
 have hw : Alloc m.w { m.w with heap:=m.w.heap.push (.map #[] 0) } (.map #[] 0):=⟨rfl,rfl,rfl,rfl⟩
 let ri : RI:=⟨m.w.heap.size,0,0,0,false⟩
 have hU:=Upd.alloc hS.h hw ri (fun _ _=>False) (fun _ _ h=>h.elim)
 refine ⟨.map (some m.w.heap.size),m.with _ σ.nx ri (fun _ _=>False),.inl ?_,hU.le hS.h,hU.keeps hS.h,hS.h.alloc hw (fun _ _ h=>h.elim) rfl ?_,?_⟩
 ·simp only [execOp,ho,Option.map_none]
  refine run_value ?_
  simp only [Instr.makeMap,Sem.run_bind,run_newObj,Result.andThen_ok,Sem.run_pure]
  rfl
 ·refine blk_set hK rfl ?_ ?_ hw.new rfl rfl (MapKept.stamped_empty 0)
  ·intro h; have:=hS.h.Pold _ h; exact absurd this (Nat.lt_irrefl _)
  ·intro o h
   rcases h with h | h
   ·have:=hS.h.Fold _ o h; exact absurd this (Nat.lt_irrefl _)
   ·exact h
 ·simp only [Rep]
  exact ⟨trivial,ri,by simp [Mem.with],rfl⟩
theorem awGuard.mkm (hK : KeyOk kind V K) {t : TypeId} (hg : o.guard = none) (ho : o.op = .makeMap t none) (hd : dstOk σ.n o.dst = true) (h : KK (St.put ⟨σ.n,σ.env,set σ.hp σ.nx (setOf K []),σ.nx + 1,σ.gl,σ.np,σ.df⟩ o.dst (.map σ.nx))) : awGuard P ds o σ KK Kp :=
 awGuard.effK ⟨True,.map σ.nx,set σ.hp σ.nx (setOf K []),σ.nx + 1⟩ hg (by rw [ho]; rfl) (by rw [ho]; rfl) hd (.inl (by rw [ho]; rfl)) (fun m a hS=>mkmap_sound hK ho hS) h

theorem und_map {t kt et : TypeId} {i : TI} (hi : tinfo P t = some i) (hk : i.k = .map kt et) : P.underlying t = some (.map kt et):=by
 obtain ⟨ti,d,h1,h2,rfl⟩:=tinfo_parts hi
 simp only at hk
 cases d <;> simp only [tkOf,reduceCtorEq,TK.map.injEq] at hk
 obtain ⟨rfl,rfl⟩:=hk
 exact h2
theorem lookup_sound (hK : KeyOk kind V K) {t kt et : TypeId} {i : TI} {x y : Operand} {id : Nat} {l : List κ} {k : κ} (ho : o.op = .lookup t x y false) (hi : tinfo P t = some i) (hk : i.k = .map kt et) (hkt : P.underlying kt = some kind) (hz : (P.info? et).map (·.zero) = some (some (.bool false)))
  (hx : evE σ x = some (ob,.map id)) (hob : ob) (hp : get σ.hp id = some (setOf K l)) (hy : evE σ y = some (ob',K k)) (hob' : ob') {m : Mem} {a : Act} (hS : Sim m a σ) : EffOk P m a o ⟨True,.bool (decide (k ∈ l)),σ.hp,σ.nx⟩:=by
 have hv:=evE_sound hS hx hob
 have hy':=(hK.rep _ _ _ _).1 (evE_sound hS hy hob')
 simp only [Rep] at hv
 obtain ⟨_,ri,hρ,hv⟩:=hv
 obtain ⟨ri',hρ',hb⟩:=hS.h.blk id _ hp
 rw [hρ] at hρ'
 injection hρ' with hρ'
 subst hρ'
 obtain ⟨h1,h2,h3,es,clock,h4,h5,h6,_⟩:=set_blk hK hb
 have hum:=und_map hi hk
 have hund : (underlying t).run P m.w = .ok (.map kt et) m.w:=by simp only [underlying,program,bind,Sem.bind,Sem.run,hum,pure]
 have hundk : (underlying kt).run P m.w = .ok kind m.w:=by simp only [underlying,program,bind,Sem.bind,Sem.run,hkt,pure]
 refine ⟨.bool (decide (k ∈ l)),m,.inl ?_,.refl m,.refl m,hS.h,by simp only [Rep]⟩
 simp only [execOp,ho]
 refine run_value ?_
 rw [hv,hy']
 have hfind : (Instr.findKey kt (V k) es.toList).run P m.w = (match Instr.findNow kind (V k) es.toList 0 with | some r=>(Result.ok r m.w : Result (Option (Nat × Value))) | none=>(Instr.findAsking kt (V k) es.toList).run P m.w):=by
  simp only [Instr.findKey,Sem.run_bind,hundk,Result.andThen_ok]
  cases Instr.findNow kind (V k) es.toList 0 <;> rfl
 by_cases hm : k ∈ l
 ·obtain ⟨j,e,g1,g2,g3⟩:=find_yes hK (i:=0) h5 hm
  rw [g1] at hfind
  have hval : e.val = .bool true:=by
   have : (es.toList.map (·.val))[j]? = some e.val:=by rw [List.getElem?_map,g2] <;> rfl
   rw [h6,List.getElem?_map,g3] at this
   simpa using this.symm
  rw [decide_eq_true hm]
  simp only [Instr.lookup,Sem.run_bind,hund,Result.andThen_ok,run_getMap h4,Sem.run_pure,hK.plain P kt m.w _ k hkt,hfind,hval,Bool.false_eq_true,if_false]
 ·have g1:=find_no hK (i:=0) h5 hm
  rw [g1] at hfind
  have hzr : (zeroValue et).run P m.w = .ok (.bool false) m.w:=by
   cases hi' : P.info? et with
   | none=>rw [hi'] at hz; cases hz
   | some inf =>
    rw [hi'] at hz
    simp only [Option.map_some,Option.some.injEq] at hz
    simp only [zeroValue,typeInfo,program,bind,Sem.bind,Sem.run,hi',pure,hz]
  rw [decide_eq_false hm]
  simp only [Instr.lookup,Sem.run_bind,hund,Result.andThen_ok,run_getMap h4,Sem.run_pure,hK.plain P kt m.w _ k hkt,hfind,hzr,Bool.false_eq_true,if_false]
theorem awGuard.lks (hK : KeyOk kind V K) {t kt et : TypeId} {i : TI} {x y : Operand} {id : Nat} {l : List κ} {k : κ} (hg : o.guard = none) (ho : o.op = .lookup t x y false) (hi : tinfo P t = some i) (hk : i.k = .map kt et) (hkt : P.underlying kt = some kind) (hz : (P.info? et).map (·.zero) = some (some (.bool false)))
  (hx : evE σ x = some (ob,.map id)) (hob : ob) (hp : get σ.hp id = some (setOf K l)) (hy : evE σ y = some (ob',K k)) (hob' : ob') (hd : dstOk σ.n o.dst = true) (h : KK (σ.put o.dst (.bool (decide (k ∈ l))))) : awGuard P ds o σ KK Kp :=
 awGuard.effK ⟨True,.bool (decide (k ∈ l)),σ.hp,σ.nx⟩ hg (by rw [ho]; rfl) (by rw [ho]; rfl) hd (.inr ⟨rfl,rfl⟩) (fun m a hS=>lookup_sound hK ho hi hk hkt hz hx hob hp hy hob' hS) h

theorem mapupd_sound (hK : KeyOk kind V K) {t kt et : TypeId} {i : TI} {x y z : Operand} {id : Nat} {l : List κ} {k : κ} {ob'' : Prop} (ho : o.op = .mapUpdate t x y z) (hi : tinfo P t = some i) (hk : i.k = .map kt et) (hkt : P.underlying kt = some kind)
  (hx : evE σ x = some (ob,.map id)) (hob : ob) (hp : get σ.hp id = some (setOf K l)) (hy : evE σ y = some (ob',K k)) (hob' : ob') (hz : evE σ z = some (ob'',.bool true)) (hob'' : ob'') {m : Mem} {a : Act} (hS : Sim m a σ) : EffOk P m a o ⟨True,.raw undef,set σ.hp id (setOf K (setAdd l k)),σ.nx⟩:=by
 have hv:=evE_sound hS hx hob
 have hy':=(hK.rep _ _ _ _).1 (evE_sound hS hy hob')
 have hz':=evE_sound hS hz hob''
 simp only [Rep] at hv hz'
 obtain ⟨_,ri,hρ,hv⟩:=hv
 obtain ⟨ri',hρ',hb⟩:=hS.h.blk id _ hp
 rw [hρ] at hρ'
 injection hρ' with hρ'
 subst hρ'
 obtain ⟨h1,h2,h3,es,clock,h4,h5,h6,h7⟩:=set_blk hK hb
 have hum:=und_map hi hk
 have hund : (underlying t).run P m.w = .ok (.map kt et) m.w:=by simp only [underlying,program,bind,Sem.bind,Sem.run,hum,pure]
 have hundk : (underlying kt).run P m.w = .ok kind m.w:=by simp only [underlying,program,bind,Sem.bind,Sem.run,hkt,pure]
 have hfind : (Instr.findKey kt (V k) es.toList).run P m.w = (match Instr.findNow kind (V k) es.toList 0 with | some r=>(Result.ok r m.w : Result (Option (Nat × Value))) | none=>(Instr.findAsking kt (V k) es.toList).run P m.w):=by
  simp only [Instr.findKey,Sem.run_bind,hundk,Result.andThen_ok]
  cases Instr.findNow kind (V k) es.toList 0 <;> rfl
 -- what the map is afterwards
 obtain ⟨es',clock',hrun,e5,e6,e7⟩ : ∃ es' clock',(Instr.mapUpdate t (.map (some ri.b)) (V k) (.bool true)).run P m.w = .ok () (wset m.w ri.b (.map es' clock')) ∧ es'.toList.map (·.key) = (setAdd l k).map V ∧ (es'.toList.map (·.val) = (setAdd l k).map fun _=>.bool true) ∧ MapKept.Stamped es' clock':=by
  by_cases hm : k ∈ l
  ·obtain ⟨j,e,g1,g2,g3⟩:=find_yes hK (i:=0) h5 hm
   rw [g1,Nat.zero_add] at hfind
   have hjl : j < es.size:=by
    rcases Nat.lt_or_ge j es.size with h | h
    ·exact h
    ·rw [List.getElem?_eq_none (by simpa using h)] at g2; cases g2
   have hkey : e.key = V k:=by
    have : (es.toList.map (·.key))[j]? = some e.key:=by rw [List.getElem?_map,g2] <;> rfl
    rw [h5,List.getElem?_map,g3] at this
    simpa using this.symm
   have hej : es[j]? = some e:=by rw [← Array.getElem?_toList]; exact g2
   have hstay : (Instr.keyThatStays (((es[j]?).map (·.key)).getD (V k)) (V k)).run P m.w = .ok (V k) m.w:=by
    rw [hej]
    simp only [Option.map_some,Option.getD_some,hkey,Instr.keyThatStays,hK.bits,if_true,Sem.run_pure]
   refine ⟨es.modify j fun e=>{ e with key:=V k,val:=.bool true },clock,?_,?_,?_,MapKept.stamped_modify h7 j _ (fun _ _=>rfl) (fun e' _ he'=>by rw [hej] at he'; injection he' with he'; subst he'; exact hkey.symm)⟩
   ·simp only [Instr.mapUpdate,Sem.run_bind,hund,Result.andThen_ok,run_getMap h4,hK.plain P kt m.w _ k hkt,hfind,hstay,run_setMap h4]
   ·rw [setAdd,if_pos hm,← h5]
    apply List.ext_getElem?
    intro q
    simp only [List.getElem?_map,Array.getElem?_toList,Array.getElem?_modify]
    by_cases hq : j = q
    ·subst hq
     simp [hej,hkey]
    ·simp [hq]
   ·rw [setAdd,if_pos hm,← h6]
    apply List.ext_getElem?
    intro q
    have hval : e.val = .bool true:=by
     have : (es.toList.map (·.val))[j]? = some e.val:=by rw [List.getElem?_map,g2] <;> rfl
     rw [h6,List.getElem?_map,g3] at this
     simpa using this.symm
    simp only [List.getElem?_map,Array.getElem?_toList,Array.getElem?_modify]
    by_cases hq : j = q
    ·subst hq
     simp [hej,hval]
    ·simp [hq]
  ·have g1:=find_no hK (i:=0) h5 hm
   rw [g1] at hfind
   refine ⟨es.push { key:=V k,val:=.bool true,born:=clock },clock + 1,?_,?_,?_,MapKept.stamped_push h7 ?_⟩
   ·simp only [Instr.mapUpdate,Sem.run_bind,hund,Result.andThen_ok,run_getMap h4,hK.plain P kt m.w _ k hkt,hfind,run_setMap h4]
   ·rw [setAdd,if_neg hm]; simp [h5]
   ·rw [setAdd,if_neg hm]; simp [h6]
   ·intro x hx he
    have : V k ∈ l.map V:=by rw [← h5,← he]; exact List.mem_map_of_mem hx
    obtain ⟨k',hk',hkk⟩:=List.mem_map.1 this
    exact hm (hK.inj hkk ▸ hk')
 have hU : Upd m { m with w:=wset m.w ri.b (.map es' clock') } ri.b:=Upd.set hS.h h2 (fun o h=>(h3 o h).elim)
 refine ⟨undef,{ m with w:=wset m.w ri.b (.map es' clock') },.inr ⟨?_,rfl⟩,hU.le hS.h,hU.keeps hS.h,?_,by simp only [Rep]⟩
 ·simp only [execOp,ho,hv,hy',hz']
  simp only [Sem.run_bind,hrun,Result.andThen_ok,Sem.run_pure]
 ·refine hS.h.upd hU (k:=id) (ri:=ri) (blk:=setOf K (setAdd l k)) hρ (blk_set hK h1 h2 h3 (wset_get h4) e5 e6 e7) (fun _=>rfl) (by rw [get_set,if_pos rfl]) ?_ hS.h.fresh
  intro j hj z hz
  rw [get_set,if_neg (Ne.symm hj)] at hz
  exact ⟨hz,hS.h.sole hp hρ h1 j hj z hz⟩
attribute [go_sem high] renB_setOf
theorem awGuard.ups (hK : KeyOk kind V K) {t kt et : TypeId} {i : TI} {x y z : Operand} {id : Nat} {l : List κ} {k : κ} {ob'' : Prop} (hg : o.guard = none) (ho : o.op = .mapUpdate t x y z) (hi : tinfo P t = some i) (hk : i.k = .map kt et) (hkt : P.underlying kt = some kind)
  (hx : evE σ x = some (ob,.map id)) (hob : ob) (hp : get σ.hp id = some (setOf K l)) (hy : evE σ y = some (ob',K k)) (hob' : ob') (hz : evE σ z = some (ob'',.bool true)) (hob'' : ob'') (hd : dstOk σ.n o.dst = true) (h : KK (St.put ⟨σ.n,σ.env,set σ.hp id (setOf K (setAdd l k)),σ.nx,σ.gl,σ.np,σ.df⟩ o.dst (.raw undef))) : awGuard P ds o σ KK Kp :=
 awGuard.effK ⟨True,.raw undef,set σ.hp id (setOf K (setAdd l k)),σ.nx⟩ hg (by rw [ho]; rfl) (by rw [ho]; rfl) hd (.inl (by rw [ho]; rfl)) (fun m a hS=>mapupd_sound hK ho hi hk hkt hx hob hp hy hob' hz hob'' hS) h
end
end Aw
