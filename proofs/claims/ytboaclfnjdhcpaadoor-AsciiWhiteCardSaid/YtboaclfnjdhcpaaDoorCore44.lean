/- Rules of a calculus of walks: no condition of its own. -/
import Derived.Test.YtboaclfnjdhcpaaDoorCore43
namespace Aw
open Go
def closedA : AV → Bool
 | .int _ _=>true
 | .str _=>true
 | .bool _=>true
 | .sl _=>true
 | _=>false
theorem closed_rep {m : Mem} : ∀ (x : AV) (v : Value),closedA x = true → Rep m 0 x v → Rep m 2 x v:=by
 intro x v hc h
 cases x <;> first | (simp only [closedA] at hc; cases hc; done) | (simpa only [Rep] using h)
theorem blk_nil {m m' : Mem} {r : RI} {x : ABlk} (hb : BlkRep m r x) (hn : r.isNil = true) : BlkRep m' r x:=by
 cases x with
 | cells cs=>rw [hb.1] at hn; cases hn
 | tc T0 cs=>rw [hb.1] at hn; cases hn
 | row sz es own =>
  rcases hb with hb | hb
  ·exact .inl hb
  ·rw [hb.1] at hn; cases hn
 | amap ks vs=>rw [hb.1] at hn; cases hn
 | lp l rc=>rw [hb.1] at hn; cases hn
 | it left cur=>rw [hb.1] at hn; cases hn
 | mrow sz es=>rw [hb.1] at hn; cases hn
 | full sz es =>
  rcases hb with ⟨hb | hb,hb'⟩
  ·exact ⟨.inl hb,hb'⟩
  ·rw [hb.1] at hn; cases hn
 | brow e0 l0 =>
  rcases hb with ⟨hb | hb,hb'⟩
  ·exact ⟨.inl hb,fun q=>by rw [hn] at q; cases q⟩
  ·rw [hb.1] at hn; cases hn
theorem repC_of {m : Mem} {b : Nat} {c : Array Value} {T : TypeId} (hbk : m.w.heap[b]? = some (.cells c T (0,0))) (hF : ∀ o,o < c.size → m.F b o) : ∀ (cs : List AV) (o : Nat),cs.all closedA = true → RepL m 0 cs (c.toList.drop o) → RepC m cs b o
 | [],_,_,_=>by simp only [RepC]
 | x :: cs,o,hc,h=>by
  simp only [List.all_cons,Bool.and_eq_true] at hc
  simp only [RepL] at h
  obtain ⟨v,rest,e,hx,hr⟩:=h
  have ho : o < c.size:=by
   rcases Nat.lt_or_ge o c.size with h | h
   ·exact h
   ·rw [List.drop_eq_nil_of_le (by simpa using h)] at e; cases e
  have e2 : c.toList.drop o = c[o] :: c.toList.drop (o + 1):=by
   rw [List.drop_eq_getElem_cons (by simpa using ho)]
   simp
  rw [e2] at e
  injection e with e3 e4
  simp only [RepC]
  refine ⟨hF o ho,⟨v,?_,closed_rep x v hc.1 hx⟩,repC_of hbk hF cs (o + 1) hc.2 (by rw [e4]; exact hr)⟩
  simp [World.cell?,hbk,ho,e3]
theorem cfz_sound {m : Mem} {hp : List (Nat × ABlk)} {nx : Nat} (hH : SimH m hp nx) {id : Nat} {cs : List AV} (hg : get hp id = some (.cells cs)) (hc : cs.all closedA = true) :
  ∃ m' ri,m.ρ id = some ri ∧ m'.w = m.w ∧ m'.ρ = m.ρ ∧ m.le m' ∧ m.keeps m' ∧ SimH m' (del hp id) nx ∧ RepC m' cs ri.b 0:=by
 obtain ⟨ri,hρ,hn,hP,hF,c,T,hbk,hl⟩:=hH.blk id _ hg
 have hU:=Upd.freeze hH (lt_of_getElem? hbk) hP (fun o=>o < c.size)
 refine ⟨{ m with F:=fun b' o=>m.F b' o ∨ (b' = ri.b ∧ o < c.size) },ri,hρ,rfl,rfl,hU.le hH,hU.keeps hH,⟨fun i x hx=>?_,fun i i' x x' r r' hx hx' hr hr' hne hn hn'=>?_,hH.fresh,hU.Fsz,hH.Pold⟩,?_⟩
 ·rw [get_del] at hx
  split at hx
  ·cases hx
  ·rename_i hi
   obtain ⟨r,hr,hb⟩:=hH.blk i x hx
   refine ⟨r,hr,?_⟩
   cases hnr : r.isNil with
   | true=>exact blk_nil hb hnr
   | false =>
    have hne : r.b ≠ ri.b:=hH.sole hg hρ hn i (Ne.symm hi) x hx r hr hnr
    exact BlkRep.mono (hU.keeps hH) (fun h=>h) (fun o hf=>hf.elim (fun h=>h) fun h=>absurd h.1 hne) (fun _=>rfl) hb
 ·rw [get_del] at hx hx'
  split at hx
  ·cases hx
  ·split at hx'
   ·cases hx'
   ·exact hH.apart i i' x x' r r' hx hx' hr hr' hne hn hn'
 ·exact repC_of (m:={ m with F:=fun b' o=>m.F b' o ∨ (b' = ri.b ∧ o < c.size) }) hbk (fun o ho=>.inr ⟨rfl,ho⟩) cs 0 hc (by rw [List.drop_zero]; exact RepL.mono (hU.keeps hH) 0 _ _ hl)
theorem AW.cf {P : Program} {σ : St} {c : Code} {Q : AX → St → Prop} (t id : Nat) {cs : List AV} {hp' : List (Nat × ABlk)} (k : AW P c ⟨σ.n,set σ.env t (.cptr cs),hp',σ.nx,σ.gl,σ.np,σ.df⟩ Q) (ht : get σ.env t = some (.ptr id 0):=by first | rfl | ((simp only [go_sem,seval]; iterate 2 try (simp (disch:=omega) only [zq]; try simp only [go_sem,seval])); done) | ((simp only [go_sem,seval]; iterate 2 try (simp (disch:=omega) only [zq]; try simp only [go_sem,seval])); exact rfl)) (hg : get σ.hp id = some (.cells cs):=by first | rfl | ((simp only [go_sem,seval]; iterate 2 try (simp (disch:=omega) only [zq]; try simp only [go_sem,seval])); exact rfl)) (hh : del σ.hp id = hp':=by (simp only [go_sem,seval]; iterate 2 try (simp (disch:=omega) only [zq]; try simp only [go_sem,seval])); exact rfl) (hc : cs.all closedA = true:=by rfl) : AW P c σ Q:=by
 subst hh
 refine AW.pre (σ':=⟨σ.n,set σ.env t (.cptr cs),del σ.hp id,σ.nx,σ.gl,σ.np,σ.df⟩) (fun m a hS=>?_) k
 obtain ⟨m',ri,hρ,h1,hr,h3,h4,h5,h6⟩:=cfz_sound hS.h hg hc
 refine ⟨m',h1,h3,h5,hS.n,hS.defers.mono h4,?_,fun g z hg=>Rep.mono h4 1 _ _ (hS.gl g z hg),by have:=h3.np; rw [this]; exact hS.np⟩
 intro u z hz
 simp only [get_set] at hz
 split at hz
 ·rename_i e
  subst e
  injection hz with hz
  subst hz
  obtain ⟨g1,g2⟩:=hS.env _ _ ht
  refine ⟨g1,?_⟩
  simp only [Rep] at g2 ⊢
  obtain ⟨_,ri',hρ',hv⟩:=g2
  rw [hρ] at hρ'
  injection hρ' with hρ'
  subst hρ'
  exact ⟨ri.b,0,hv,h6⟩
 ·obtain ⟨g1,g2⟩:=hS.env u z hz
  exact ⟨g1,Rep.mono h4 0 _ _ g2⟩
end Aw
