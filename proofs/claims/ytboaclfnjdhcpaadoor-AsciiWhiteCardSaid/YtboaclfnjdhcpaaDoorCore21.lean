/- Rules of a calculus of walks: no condition of its own. -/
import Derived.Test.YtboaclfnjdhcpaaDoorCore20
namespace Aw
open Go
theorem St.le.tcLess {σ : St} (id off : Nat) {T : TypeId} {cs : List AV} {x : AV} (x' : AV) (h : get σ.hp id = some (.tc T cs)) (hc : cs[off]? = some x) (hl : ∀ m v,Rep m 0 x v → Rep m 0 x' v) :
  St.le ⟨σ.n,σ.env,set σ.hp id (.tc T (cs.set off x')),σ.nx,σ.gl,σ.np,σ.df⟩ σ:=by
 intro m a hS
 refine ⟨m,rfl,.refl m,⟨⟨?_,?_,hS.h.fresh,hS.h.Fold,hS.h.Pold⟩,hS.n,hS.defers,hS.env,hS.gl,hS.np⟩⟩
 ·intro j y hy
  rw [get_set] at hy
  split at hy
  ·rename_i e
   subst e
   injection hy with hy
   subst hy
   obtain ⟨ri,hr,g1,g2,g3,c,g4,g5,g6,g7,g8⟩:=hS.h.blk id _ h
   exact ⟨ri,hr,g1,g2,g3,c,g4,RepL.set (x:=x) (fun v hv=>hl m v hv) g5 hc,g6,g7,by rw [List.length_set]; exact g8⟩
  ·exact hS.h.blk j y hy
 ·intro j j' y y' ri ri' hy hy' hr hr' hjj hn hn'
  have key : ∀ k z,get (set σ.hp id (.tc T (cs.set off x'))) k = some z → ∃ z',get σ.hp k = some z':=by
   intro k z hz
   rw [get_set] at hz
   split at hz
   ·rename_i e; subst e; exact ⟨_,h⟩
   ·exact ⟨z,hz⟩
  obtain ⟨z,hz⟩:=key j y hy
  obtain ⟨z',hz'⟩:=key j' y' hy'
  exact hS.h.apart j j' z z' ri ri' hz hz' hr hr' hjj hn hn'
abbrev bldP (wr : Bool) (id : Nat) : AV:=.ite wr (.ptr id 0) (.raw (.pointer none))
theorem bldP_t {id : Nat} (m : Mem) (v : Value) (h : Rep m 0 (.ptr id 0) v) : Rep m 0 (bldP true id) v:=by
 rw [bldP,Rep]
 exact ⟨fun _=>h,fun q=>by cases q⟩
theorem bldP_f {id : Nat} (m : Mem) (v : Value) (h : Rep m 0 (.raw (.pointer none)) v) : Rep m 0 (bldP false id) v:=by
 rw [bldP,Rep]
 exact ⟨fun q=>(by cases q),fun _=>h⟩
section
variable {P : Program} {gl : List (Nat × AV)} {f : FuncId} {T : TypeId}
theorem setcell_shape {w : World} {b : Nat} {c : Array Value} (h : w.heap[b]? = some (.cells c T (0,0))) : w.shape? b = some (T,c.size):=by
 simp only [World.shape?,h]
theorem FnH.copyCheck {wr : Bool} {x : AV} {blk : ABlk} (hE : Aw.enters P f)
  (h1 : ∀ (b : Nat) (w : World),w.cell? ⟨b,0,none⟩ = some (.pointer (some ⟨b,0,none⟩)) → Calls P f #[.pointer (some ⟨b,0,none⟩)] w fun e w'=>e = .returned (.tuple #[]) ∧ w' = w)
  (h2 : ∀ (b : Nat) (w : World),w.cell? ⟨b,0,none⟩ = some (.pointer none) → w.shape? b = some (T,2) → w.frozen? ⟨b,0,none⟩ = false →
   Calls P f #[.pointer (some ⟨b,0,none⟩)] w fun e w'=>e = .returned (.tuple #[]) ∧ w' = w.setCell ⟨b,0,none⟩ (.pointer (some ⟨b,0,none⟩))) :
  FnH P gl f [.ptr 0 0] [(0,.tc T [bldP wr 0,x]),(1,blk)] 2 fun r h n=>r = .ret (.tup []) ∧ h = [(0,.tc T [.ptr 0 0,x]),(1,blk)] ∧ n = 2:=by
 refine ⟨hE,fun m vs hm hv=>?_⟩
 simp only [RepL,Rep] at hv
 obtain ⟨_,_,rfl,⟨_,ri,hρ,rfl⟩,rfl⟩:=hv
 have hg : get [(0,ABlk.tc T [bldP wr 0,x]),(1,blk)] 0 = some (.tc T [bldP wr 0,x]):=rfl
 obtain ⟨ri',hρ',hb⟩:=hm.h.blk 0 _ hg
 rw [hρ] at hρ'
 injection hρ' with hρ'
 subst hρ'
 obtain ⟨hn,hP,hF,c,hbk,hL,hX⟩:=hb
 have hlen:=hL.length
 simp only [RepL] at hL
 obtain ⟨v0,_,hc0,hv0,v1,_,rfl,hv1,rfl⟩:=hL
 have hcs : c = #[v0,v1]:=by
  apply Array.ext'
  simpa using hc0
 subst hcs
 have hp0 : ∀ id y,get [(0,ABlk.tc T [AV.ptr 0 0,x]),(1,blk)] id = some y → id = 0 ∧ y = .tc T [.ptr 0 0,x] ∨ id = 1 ∧ y = blk ∧ get [(0,ABlk.tc T [bldP wr 0,x]),(1,blk)] 1 = some blk:=by
  intro id y hy
  simp only [get] at hy
  split at hy
  ·rename_i e; exact .inl ⟨e.symm,(Option.some.inj hy).symm⟩
  ·split at hy
   ·rename_i e; exact .inr ⟨e.symm,(Option.some.inj hy).symm,rfl⟩
   ·cases hy
 have hcell : m.w.cell? ⟨ri.b,0,none⟩ = some v0:=by simp [World.cell?,hbk]
 simp only [Rep] at hv0
 cases wr with
 | true =>
  have e0:=hv0.1 rfl
  obtain ⟨_,ri2,hρ2,e0⟩:=e0
  rw [hρ] at hρ2
  injection hρ2 with hρ2
  subst hρ2
  subst e0
  refine (h1 ri.b m.w hcell).mono ?_
  rintro e w' ⟨rfl,rfl⟩
  refine ⟨m,.ret (.tup []),_,2,rfl,.refl m,?_,⟨_,rfl,by simp [Rep,RepL]⟩,rfl,rfl,rfl⟩
  refine ⟨fun id y hy=>?_,fun id id' y y' r r' hy hy' hr hr' hne hn1 hn2=>?_,hm.h.fresh,hm.h.Fold,hm.h.Pold⟩
  ·rcases hp0 id y hy with ⟨rfl,rfl⟩ | ⟨rfl,rfl,h⟩
   ·refine ⟨ri,hρ,hn,hP,hF,_,hbk,?_,hX⟩
    simp only [RepL,Rep]
    exact ⟨_,_,rfl,⟨trivial,ri,hρ,rfl⟩,_,_,rfl,hv1,rfl⟩
   ·exact hm.h.blk 1 _ h
  ·have key : ∀ id y,get [(0,ABlk.tc T [AV.ptr 0 0,x]),(1,blk)] id = some y → ∃ z,get [(0,ABlk.tc T [bldP true 0,x]),(1,blk)] id = some z:=by
    intro id y hy
    rcases hp0 id y hy with ⟨rfl,rfl⟩ | ⟨rfl,rfl,h⟩
    ·exact ⟨_,rfl⟩
    ·exact ⟨_,h⟩
   obtain ⟨z,hz⟩:=key id y hy
   obtain ⟨z',hz'⟩:=key id' y' hy'
   exact hm.h.apart id id' z z' r r' hz hz' hr hr' hne hn1 hn2
 | false =>
  have e0:=hv0.2 rfl
  subst e0
  refine (h2 ri.b m.w hcell (setcell_shape hbk) (by simp [World.frozen?,hbk])).mono ?_
  rintro e w' ⟨rfl,rfl⟩
  rw [setCell_eq hbk]
  have hU : Upd m { m with w:=wset m.w ri.b (.cells (#[Value.pointer none,v1].setIfInBounds 0 (.pointer (some ⟨ri.b,0,none⟩))) T (0,0)) } ri.b:=Upd.set hm.h hP (fun o h=>(hF o h).elim)
  refine ⟨{ m with w:=wset m.w ri.b (.cells (#[Value.pointer none,v1].setIfInBounds 0 (.pointer (some ⟨ri.b,0,none⟩))) T (0,0)) },.ret (.tup []),_,2,rfl,hU.le hm.h,?_,⟨_,rfl,by simp [Rep,RepL]⟩,rfl,rfl,rfl⟩
  refine hm.h.upd hU (k:=0) (ri:=ri) (blk:=.tc T [.ptr 0 0,x]) hρ ?_ (fun _=>rfl) rfl ?_ hm.h.fresh
  ·refine ⟨hn,hP,hF,_,wset_get hbk,?_,hX⟩
   have hv1':=Rep.mono (hU.keeps hm.h) 0 _ _ hv1
   simp only [RepL,Rep]
   exact ⟨_,_,rfl,⟨trivial,ri,hρ,rfl⟩,_,_,rfl,hv1',rfl⟩
  ·intro j hj z hz
   rcases hp0 j z hz with ⟨rfl,rfl⟩ | ⟨rfl,rfl,h⟩
   ·exact absurd rfl hj
   ·exact ⟨h,hm.h.sole hg hρ hn 1 hj _ h⟩
end
section
variable {P : Program} {m : Mem} {a : Act} {σ : St}
theorem SimH.browOf {hp : List (Nat × ABlk)} {nx k : Nat} {e : TypeId} {l : List UInt8} {ri : RI} (hH : SimH m hp nx) (hg : get hp k = some (.row 1 (bytesAV l) true)) (hρ : m.ρ k = some ri)
  (hx : ri.isNil = false → (ri.o = 0 ∧ 1 ≤ ri.cap) ∧ ∃ c,m.w.heap[ri.b]? = some (.cells c e (0,0))) : SimH m (set hp k (.brow e l)) nx:=by
 refine ⟨fun id y hy=>?_,fun id id' y y' r r' hy hy' hr hr' hne hn1 hn2=>?_,hH.fresh,hH.Fold,hH.Pold⟩
 ·rw [get_set] at hy
  split at hy
  ·rename_i q
   subst q
   injection hy with hy
   subst hy
   obtain ⟨r,hr,hb⟩:=hH.blk _ _ hg
   rw [hρ] at hr
   injection hr with hr
   subst hr
   exact ⟨ri,hρ,hb,hx⟩
  ·exact hH.blk id y hy
 ·have key : ∀ j z,get (set hp k (ABlk.brow e l)) j = some z → ∃ z',get hp j = some z':=by
   intro j z hz
   rw [get_set] at hz
   split at hz
   ·rename_i q; subst q; exact ⟨_,hg⟩
   ·exact ⟨z,hz⟩
  obtain ⟨z,hz⟩:=key id y hy
  obtain ⟨z',hz'⟩:=key id' y' hy'
  exact hH.apart id id' z z' r r' hz hz' hr hr' hne hn1 hn2
theorem SimH.browUn {hp : List (Nat × ABlk)} {nx k : Nat} {e : TypeId} {l : List UInt8} (hH : SimH m hp nx) (hg : get hp k = some (.brow e l)) : SimH m (set hp k (.row 1 (bytesAV l) true)) nx:=by
 refine ⟨fun id y hy=>?_,fun id id' y y' r r' hy hy' hr hr' hne hn1 hn2=>?_,hH.fresh,hH.Fold,hH.Pold⟩
 ·rw [get_set] at hy
  split at hy
  ·rename_i q
   subst q
   injection hy with hy
   subst hy
   obtain ⟨r,hr,hb⟩:=hH.blk _ _ hg
   exact ⟨r,hr,hb.1⟩
  ·exact hH.blk id y hy
 ·have key : ∀ j z,get (set hp k (ABlk.row 1 (bytesAV l) true)) j = some z → ∃ z',get hp j = some z':=by
   intro j z hz
   rw [get_set] at hz
   split at hz
   ·rename_i q; subst q; exact ⟨_,hg⟩
   ·exact ⟨z,hz⟩
  obtain ⟨z,hz⟩:=key id y hy
  obtain ⟨z',hz'⟩:=key id' y' hy'
  exact hH.apart id id' z z' r r' hz hz' hr hr' hne hn1 hn2
theorem St.le.nilcellB {σ : St} (id off : Nat) (e : TypeId) {T : TypeId} {cs : List AV} (h : get σ.hp id = some (.tc T cs)) (hc : cs[off]? = some (.raw (.slice none 0 0))) :
  St.le ⟨σ.n,σ.env,set (set σ.hp σ.nx (.brow e [])) id (.tc T (cs.set off (.row σ.nx 0 0))),σ.nx + 1,σ.gl,σ.np,σ.df⟩ σ:=by
 intro m a hS
 obtain ⟨m',h1,h2,h3,h4,h5⟩:=nilrow_sound hS.h 1 true
 have hS':=hS.of h3 h4
 have hne : ¬ σ.nx = id:=by
  intro e
  obtain ⟨ri,hr,_⟩:=hS.h.blk id _ h
  rw [hS.h.fresh id (by omega)] at hr
  cases hr
 have hg0 : get (set σ.hp σ.nx (.row 1 [] true)) σ.nx = some (.row 1 (bytesAV []) true):=by rw [get_set,if_pos rfl] <;> rfl
 have hk5:=h5
 simp only [Rep,true_and] at hk5
 obtain ⟨r5,hr5,hv5⟩:=hk5
 have hn5 : r5.isNil = true:=by
  rcases hv5 with ⟨q,_⟩ | ⟨_,_,_,q⟩ | ⟨_,_,_,ad,q⟩
  ·exact q
  ·cases q
  ·cases q
 have h4':=SimH.congr (hp':=set σ.hp σ.nx (.brow e [])) (fun i=>by simp only [get_set]; split <;> rfl) (h4.browOf (e:=e) hg0 hr5 (fun q=>by rw [hn5] at q; cases q))
 have hg : get (set σ.hp σ.nx (.brow e [])) id = some (.tc T cs):=by rw [get_set,if_neg hne]; exact h
 refine ⟨m',h1,h2,⟨⟨?_,?_,h4'.fresh,h4'.Fold,h4'.Pold⟩,hS'.n,hS'.defers,hS'.env,hS'.gl,hS'.np⟩⟩
 ·intro j x hx
  rw [get_set] at hx
  split at hx
  ·rename_i e
   subst e
   injection hx with hx
   subst hx
   obtain ⟨ri,hr,g1,g2,g3,c,g4,g5,g6,g7,g8⟩:=h4'.blk id _ hg
   refine ⟨ri,hr,g1,g2,g3,c,g4,RepL.set (x:=.raw (.slice none 0 0)) (fun v hv=>?_) g5 hc,g6,g7,by rw [List.length_set]; exact g8⟩
   simp only [Rep] at hv
   subst hv
   exact h5
  ·exact h4'.blk j x hx
 ·intro j j' x x' ri ri' hx hx' hr hr' hjj hn hn'
  have key : ∀ k y,get (set (set σ.hp σ.nx (.brow e [])) id (.tc T (cs.set off (.row σ.nx 0 0)))) k = some y → ∃ z,get (set σ.hp σ.nx (.brow e [])) k = some z:=by
   intro k y hy
   rw [get_set] at hy
   split at hy
   ·rename_i e
    subst e
    exact ⟨_,hg⟩
   ·exact ⟨y,hy⟩
  obtain ⟨z,hz⟩:=key j x hx
  obtain ⟨z',hz'⟩:=key j' x' hx'
  exact h4'.apart j j' z z' ri ri' hz hz' hr hr' hjj hn hn'
theorem bB_append (l l2 : List UInt8) : bytesAV (l ++ l2) = bytesAV l ++ bytesAV l2:=by simp [bytesAV]
theorem bB_len (l : List UInt8) : (bytesAV l).length = l.length:=by simp [bytesAV]
theorem bB_one (l : List UInt8) : ∀ e ∈ bytesAV l,e.length = 1:=by
 intro e he
 simp only [bytesAV,List.mem_map] at he
 obtain ⟨_,_,rfl⟩:=he
 rfl
theorem apB_sound (hS : Sim m a σ) {sT xT ty et : TypeId} {ti xi ei : TI} {s x : Operand} {id : Nat} {l l2 : List UInt8} {ob1 : Prop} {r : Prop × List (List AV)} {qx : Prop × AV}
  (hti : tinfo P sT = some ti) (hk : ti.k = .slice et) (hxi : tinfo P xT = some xi) (hxk : isSrcK xi.k = true) (hei : tinfo P et = some ei) (hsz : ei.sz = 1) (hb1 : 1 ≤ ei.bytes) (hb2 : ei.bytes ≤ 4294967296)
  (hzl : ei.zero.map List.length = some 1) (hp : evE σ s = some (ob1,.row id 0 l.length)) (h1 : ob1) (hg : get σ.hp id = some (.brow et l)) (hq : evE σ x = some qx) (h2 : qx.1) (hr : asrc σ.hp 1 qx.2 = some r) (h3 : r.1)
  (hr2 : r.2 = bytesAV l2) (hroom : room (l.length + l2.length) ei.bytes) :
  ∃ v m',(Builtin.append_ #[sT,xT] ty #[a.eval s,a.eval x]).run P m.w = .ok v m'.w ∧ m.le m' ∧ m.keeps m' ∧ SimH m' (set (del σ.hp id) σ.nx (.brow et (l ++ l2))) (σ.nx + 1) ∧ Rep m' 0 (.row σ.nx 0 (l.length + l2.length)) v:=by
 have hnx : σ.nx ≠ id:=by
  intro e
  obtain ⟨ri,hr',_⟩:=hS.h.blk id _ hg
  rw [hS.h.fresh id (by omega)] at hr'
  cases hr'
 have hH1:=hS.h.browUn hg
 have hg1 : get (set σ.hp id (.row 1 (bytesAV l) true)) id = some (.row 1 (bytesAV l) true):=by rw [get_set,if_pos rfl]
 have hdel : ∀ (b : ABlk) i,get (set (del σ.hp id) σ.nx b) i = get (set (del (set σ.hp id (.row 1 (bytesAV l) true)) id) σ.nx b) i:=by
  intro b i
  simp only [get_set,get_del]
  split
  ·rfl
  ·split
   ·rfl
   ·rfl
 obtain ⟨ti',hti',_,_,hzz⟩:=run_typeInfo_ti (w:=m.w) hei
 have hzv : ∃ zv : Value,zv.cells.size = 1 ∧ ∀ w',(zeroValue et).run P w' = .ok zv w':=by
  rw [hzz] at hzl
  cases hz : ti'.zero with
  | none=>rw [hz] at hzl; cases hzl
  | some zv =>
   rw [hz] at hzl
   simp at hzl
   have : (zeroValue et).run P m.w = .ok zv m.w:=by unfold zeroValue; rw [run_bind hti']; simp only [hz] <;> rfl
   exact ⟨zv,hzl,zero_any this⟩
 obtain ⟨zv,hzs,hzr⟩:=hzv
 obtain ⟨g1,g2,vs,g3,g4,g5⟩:=asrc_sound (P:=P) hS.h (x:=qx.2) (es:=r.2) (ob:=r.1) hr h3 (evE_sound hS hq h2)
 rw [hr2] at g1 g2 g3 g5
 rw [bB_len] at g2 g5
 have hv:=evE_sound hS hp h1
 simp only [Rep] at hv
 obtain ⟨_,ri,hρ,hrow⟩:=hv
 obtain ⟨ri',hρ',hb,hbx⟩:=hS.h.blk id _ hg
 rw [hρ] at hρ'
 injection hρ' with hρ'
 subst hρ'
 have hfin : ∀ (m' : Mem) (v : Value) (b : Bool),SimH m' (set (del (set σ.hp id (.row 1 (bytesAV l) true)) id) σ.nx (.row 1 (bytesAV l ++ bytesAV l2) true)) (σ.nx + 1) →
   (∀ r',m'.ρ σ.nx = some r' → r'.isNil = false → (r'.o = 0 ∧ 1 ≤ r'.cap) ∧ ∃ c,m'.w.heap[r'.b]? = some (.cells c et (0,0))) → SimH m' (set (del σ.hp id) σ.nx (.brow et (l ++ l2))) (σ.nx + 1):=by
  intro m' v b hH' hx
  have hg' : get (set (del (set σ.hp id (.row 1 (bytesAV l) true)) id) σ.nx (.row 1 (bytesAV l ++ bytesAV l2) true)) σ.nx = some (.row 1 (bytesAV (l ++ l2)) true):=by rw [get_set,if_pos rfl,bB_append]
  obtain ⟨r',hr',_⟩:=hH'.blk _ _ hg'
  refine SimH.congr (fun i=>?_) (hH'.browOf hg' hr' (hx r' hr'))
  simp only [get_set,get_del]
  split
  ·rfl
  ·split <;> rfl
 -- growing into a new block
 have hnew : ∀ (olds : List Value) (base : Option Addr) (cap0 : Nat),RepL m 2 (bytesAV l).flatten olds → a.eval s = .slice base l.length cap0 → ¬ l.length + l2.length ≤ cap0 →
   (∀ w' : World,w'.heap = m.w.heap → (Builtin.firstCells 1 l.length (.slice base l.length cap0)).run P w' = .ok olds.toArray w') →
   ∃ v m',(Builtin.append_ #[sT,xT] ty #[a.eval s,a.eval x]).run P m.w = .ok v m'.w ∧ m.le m' ∧ m.keeps m' ∧ SimH m' (set (del σ.hp id) σ.nx (.brow et (l ++ l2))) (σ.nx + 1) ∧ Rep m' 0 (.row σ.nx 0 (l.length + l2.length)) v:=by
  intro olds base cap0 ho hs hcap hf
  rw [← hsz] at hf
  obtain ⟨w',cap,c1,c2,c3⟩:=run_append_grow (w:=m.w) (ty:=ty) (base:=base) (sLen:=l.length) (sCap:=cap0) hti hk hxi hxk hei g2 hcap hb1 hb2 hroom hzr
   (old:=olds.toArray) (new:=vs.toArray) hf (fun w' hw=>by rw [hsz]; exact g5 w' hw)
  obtain ⟨m',k1,k2,k3,k4,k5⟩:=grow_new (hH1.del id) (es1:=bytesAV l) (es2:=bytesAV l2) (olds:=olds) (news:=vs) (z:=zv) (et:=et) (sz:=1) (cap:=cap) true (Nat.le_refl _) hzs
   (bB_one l) g1 ho g3 (by rw [bB_len,bB_len]; exact c1) (by rw [bB_len,bB_len]; exact c2)
  rw [bB_len,bB_len] at k5
  refine ⟨_,m',by rw [hs,c3,k1],k2,k3,hfin m' (.bool true) true k4 ?_,k5⟩
  intro r' hr' hn'
  simp only [Rep,true_and] at k5
  obtain ⟨r2,hr2,hrow2⟩:=k5
  rw [hr'] at hr2
  injection hr2 with hr2
  subst hr2
  rcases hrow2 with ⟨hn2,_⟩ | ⟨_,hc2,hlt2,hv2⟩ | ⟨_,hc2,hl2,ad,hv2⟩
  ·rw [hn'] at hn2; cases hn2
  ·simp only [Nat.zero_mul,Nat.add_zero,Value.slice.injEq,Option.some.injEq,Addr.mk.injEq] at hv2
   refine ⟨⟨hv2.1.2.1.symm,by omega⟩,olds.toArray ++ vs.toArray ++ Builtin.zeroCells zv.cells (cap - (l.length + l2.length)),?_⟩
   rw [← hv2.1.1,k1]
   exact c2.new
  ·simp only [Value.slice.injEq] at hv2
   omega
 rcases hrow with ⟨hn,_,hl0,hsv⟩ | ⟨hn,hcap,hlt,hsv⟩ | ⟨hn,h0,_,ad,hsv⟩
 ·-- a nil slice
  have hl : l = []:=List.eq_nil_of_length_eq_zero hl0
  subst hl
  by_cases hne : l2 = []
  ·subst hne
   obtain ⟨m',k1,k2,k3,k4,k5⟩:=nilrow_sound (hH1.del id) 1 true
   refine ⟨.slice none 0 0,m',?_,k2,k3,hfin m' (.bool true) true k4 ?_,k5⟩
   ·rw [hsv,k1]
    refine run_append_nil hti hk hxi hxk hei g2 (new:=vs.toArray) ?_
    rw [hsz]
    exact g5 m.w rfl
   ·intro r' hr' hn'
    simp only [Rep,true_and] at k5
    obtain ⟨r2,hr2,hrow2⟩:=k5
    rw [hr'] at hr2
    injection hr2 with hr2
    subst hr2
    rcases hrow2 with ⟨hn2,_⟩ | ⟨_,_,_,hv2⟩ | ⟨_,_,_,ad,hv2⟩
    ·rw [hn'] at hn2; cases hn2
    ·cases hv2
    ·cases hv2
  ·have : 0 < l2.length:=List.length_pos_iff.2 hne
   refine hnew [] none 0 (by simp [RepL,bytesAV]) (by rw [hsv]; rfl) (by simp; omega) (fun w' _=>firstCells_zero)
 ·have hsz1 : ri.sz = 1:=by
   rcases hb with ⟨h,_⟩ | ⟨_,_,⟨_,h⟩,_⟩
   ·rw [hn] at h; cases h
   ·exact h
  obtain ⟨⟨ho0,hc1⟩,c,hbk⟩:=hbx hn
  have e0 : ri.o + 0 * ri.sz = 0:=by rw [ho0]; omega
  rw [e0,Nat.sub_zero] at hsv
  rw [Nat.zero_add] at hcap
  by_cases hfit : l.length + l2.length ≤ ri.cap
  ·obtain ⟨m',k1,k2,k3,k4,k5⟩:=grow_in hH1 hg1 hρ hn (off:=0) (len:=l.length) (es2:=bytesAV l2) (by rw [bB_len]; omega) (by simp) (by rw [hsz1]; exact g1) (by rw [bB_len]; omega) g3 g4 P
   have hdt : (List.drop 0 (bytesAV l)).take l.length = bytesAV l:=by rw [List.drop_zero,List.take_of_length_le (by rw [bB_len]; omega)]
   rw [hdt] at k4
   rw [e0,Nat.sub_zero] at k5
   refine ⟨.slice (some ⟨ri.b,0,none⟩) (l.length + l2.length) ri.cap,m',?_,k2,k3,hfin m' (.bool true) true k4 ?_,?_⟩
   ·rw [hsv]
    refine run_append_in hti hk hxi hxk hei g2 hfit (new:=vs.toArray) (by rw [hsz]; exact g5 m.w rfl) ?_
    rw [addr_add,hsz,← hsz1]
    have e1 : ri.o + 0 * ri.sz + l.length * ri.sz = 0 + l.length * ri.sz:=by rw [e0]
    rw [e1] at k1
    exact k1
   ·intro r' hr' hn'
    rw [k5] at hr'
    injection hr' with hr'
    subst hr'
    refine ⟨⟨rfl,hc1⟩,?_⟩
    have hvl : vs.length = l2.length:=by rw [g3.length,flat_len (sz:=1) g1,bB_len]; omega
    have hcs : ri.cap ≤ c.size:=by
     rcases hb with ⟨h,_⟩ | ⟨_,_,_,_,⟨c2,T2,lo2,hi2,hbk2,_,hcs⟩,_⟩
     ·rw [hn] at h; cases h
     ·rw [hbk] at hbk2
      injection hbk2 with hbk2
      injection hbk2 with e1 e2 e3
      subst e1
      rw [hsz1,ho0] at hcs
      omega
    obtain ⟨c',_,hst⟩:=run_storeCells (P:=P) vs (ri.o + 0 * ri.sz + l.length * ri.sz) 0 m.w c hbk (by intro i _ hi; omega) (by rw [e0,hsz1]; omega) g4
    rw [hst] at k1
    injection k1 with _ k1
    refine ⟨c',?_⟩
    show m'.w.heap[ri.b]? = _
    rw [← k1]
    exact wset_get hbk
   ·simp only [Rep,true_and]
    refine ⟨_,k5,.inr (.inl ⟨rfl,by simp only; omega,by simp only; omega,?_⟩)⟩
    simp only [Nat.zero_mul,Nat.add_zero,Nat.sub_zero]
  ·have hY : RepY m (bytesAV l) ri.b ri.o ri.sz:=by
    rcases hb with ⟨h,_⟩ | ⟨_,_,_,_,_,hif⟩
    ·rw [hn] at h; cases h
    ·rw [if_pos rfl] at hif
     exact hif.1
   obtain ⟨vs0,q1,q2⟩:=firstCells_of (P:=P) (c:=ri.cap) hY
   rw [bB_len] at q2
   refine hnew vs0 (some ⟨ri.b,0,none⟩) ri.cap q1 hsv hfit (fun w' hw=>?_)
   have:=q2 w' hw l.length
   rw [hsz1,ho0] at this
   exact this
 ·obtain ⟨⟨_,hc1⟩,_⟩:=hbx hn
  omega
end
section
variable {P : Program} {ds : List (Option Tmp)} {σ : St} {o : Oper} {K : St → Prop} {Kp : AV → St → Prop} {ob : Prop}
theorem awGuard.apB {s x : Operand} {sT xT et : TypeId} {ti xi ei : TI} {id : Nat} {l : List UInt8} (l2 : List UInt8) {n : Nat} {r : Prop × List (List AV)} {qx : Prop × AV} {c : Call} (hr2 : r.2 = bytesAV l2) (hn : n = l.length)
  (hroom : l.length + l2.length ≤ 70368744177664) (hK : K (St.put ⟨σ.n,σ.env,set (del σ.hp id) σ.nx (.brow et (l ++ l2)),σ.nx + 1,σ.gl,σ.np,σ.df⟩ o.dst (.row σ.nx 0 (l.length + l2.length))))
  (hg : o.guard = none:=by exact rfl) (ho : o.op = .call c:=by exact rfl) (hc : c.callee = .builtin .append:=by exact rfl) (ha : c.args = #[s,x]:=by exact rfl) (ht : c.argTypes = #[sT,xT]:=by exact rfl)
  (hti : tinfo P sT = some ti:=by (simp only [go_sem,seval]; iterate 2 try (simp (disch:=omega) only [zq]; try simp only [go_sem,seval])); exact rfl) (hk : ti.k = .slice et:=by exact rfl) (hxi : tinfo P xT = some xi:=by (simp only [go_sem,seval]; iterate 2 try (simp (disch:=omega) only [zq]; try simp only [go_sem,seval])); exact rfl) (hxk : isSrcK xi.k = true:=by exact rfl) (hei : tinfo P et = some ei:=by (simp only [go_sem,seval]; iterate 2 try (simp (disch:=omega) only [zq]; try simp only [go_sem,seval])); exact rfl)
  (hsz : ei.sz = 1:=by exact rfl) (hb1 : ei.bytes = 1:=by exact rfl) (hzl : ei.zero.map List.length = some 1:=by exact rfl)
  (hp : evE σ s = some (ob,.row id 0 n):=by (simp only [go_sem,seval]; iterate 2 try (simp (disch:=omega) only [zq]; try simp only [go_sem,seval])); exact rfl) (h1 : ob:=by ((try (simp only [go_sem,seval]; iterate 2 try (simp (disch:=omega) only [zq]; try simp only [go_sem,seval]))); try (first | exact True.intro | omega | (simp only [zb]; omega) | (simp; done) | (simp; omega) | (and_intros <;> first | assumption | omega | (simp; done) | (simp; omega))))) (hgt : get σ.hp id = some (.brow et l):=by (simp only [go_sem,seval]; iterate 2 try (simp (disch:=omega) only [zq]; try simp only [go_sem,seval])); exact rfl) (hq : evE σ x = some qx:=by (simp only [go_sem,seval]; iterate 2 try (simp (disch:=omega) only [zq]; try simp only [go_sem,seval])); exact rfl) (h2 : qx.1:=by ((try (simp only [go_sem,seval]; iterate 2 try (simp (disch:=omega) only [zq]; try simp only [go_sem,seval]))); try (first | exact True.intro | omega | (simp only [zb]; omega) | (simp; done) | (simp; omega) | (and_intros <;> first | assumption | omega | (simp; done) | (simp; omega)))))
  (hr : asrc σ.hp 1 qx.2 = some r:=by (simp only [go_sem,seval]; iterate 2 try (simp (disch:=omega) only [zq]; try simp only [go_sem,seval])); exact rfl) (h3 : r.1:=by ((try (simp only [go_sem,seval]; iterate 2 try (simp (disch:=omega) only [zq]; try simp only [go_sem,seval]))); try (first | exact True.intro | omega | (simp only [zb]; omega) | (simp; done) | (simp; omega) | (and_intros <;> first | assumption | omega | (simp; done) | (simp; omega))))) (hd : dstOk σ.n o.dst = true:=by (simp only [go_sem,seval]; iterate 2 try (simp (disch:=omega) only [zq]; try simp only [go_sem,seval]))) (he : effOp P σ o.op = none:=by (simp only [go_sem,seval]; iterate 2 try (simp (disch:=omega) only [zq]; try simp only [go_sem,seval]))) : awGuard P ds o σ K Kp:=by
 subst hn
 refine awGuard.effK ⟨True,.row σ.nx 0 (l.length + l2.length),set (del σ.hp id) σ.nx (.brow et (l ++ l2)),σ.nx + 1⟩ hg (by rw [ho]; simp only [pureOp,hc]) he hd (.inl (by rw [ho]; simp only [isEff,hc])) (fun m a hS=>?_) hK
 obtain ⟨v,m',k1,k2,k3,k4,k5⟩:=apB_sound (P:=P) (ty:=o.type) hS hti hk hxi hxk hei hsz (by omega) (by omega) hzl hp h1 hgt hq h2 hr h3 hr2 (by unfold room; rw [hb1]; omega)
 refine ⟨v,m',.inl ?_,k2,k3,k4,k5⟩
 obtain ⟨callee,args,argTypes⟩:=c
 simp only at hc ha ht
 subst hc ha ht
 simp only [execOp,ho]
 show (do pure (Next.value (← Builtin.append_ #[sT,xT] o.type ((#[s,x] : Array Operand).map a.eval))) : Sem Next).run P m.w = _
 have e3 : (#[s,x] : Array Operand).map a.eval = #[a.eval s,a.eval x]:=by simp
 rw [e3]
 exact run_value k1
end
end Aw
