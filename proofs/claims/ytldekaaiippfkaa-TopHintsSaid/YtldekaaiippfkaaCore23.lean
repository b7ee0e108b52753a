/- Rules of a calculus of walks: no condition of its own. -/
import Derived.Test.YtldekaaiippfkaaCore22
namespace Aw
open Go
section
variable {m m' : Mem} {π : Nat → Nat}
mutual
theorem Rep.mono1 (h : KF m m') : ∀ (x : AV) (v : Value), noT x = true → Rep m 1 x v → Rep m' 1 x v
 | .bool _, _, _, hx => by simpa only [Rep] using hx
 | .int _ _, _, _, hx => by simpa only [Rep] using hx
 | .str _, _, _, hx => by simpa only [Rep] using hx
 | .agg cs, v, hn, hx => by
  simp only [noT] at hn
  simp only [Rep] at hx ⊢
  obtain ⟨vs, rfl, hl⟩ := hx
  exact ⟨vs, rfl, RepL.mono1 h cs _ hn hl⟩
 | .tup cs, v, hn, hx => by
  simp only [noT] at hn
  simp only [Rep] at hx ⊢
  obtain ⟨vs, rfl, hl⟩ := hx
  exact ⟨vs, rfl, RepL.mono1 h cs _ hn hl⟩
 | .clos f cs, v, hn, hx => by
  simp only [noT] at hn
  simp only [Rep] at hx ⊢
  obtain ⟨vs, rfl, hl⟩ := hx
  exact ⟨vs, rfl, RepL.mono1 h cs _ hn hl⟩
 | .sl es, v, _, hx => by
  simp only [Rep] at hx ⊢
  rcases hx with hx | ⟨b, o, c, sz, rfl, hc, he⟩
  ·exact .inl hx
  ·exact .inr ⟨b, o, c, sz, rfl, hc, RepE.monoK h es b o sz he⟩
 | .row id off len, v, _, hx => by
  simp only [Rep] at hx
  omega
 | .ptr id off, v, _, hx => by
  simp only [Rep] at hx
  omega
 | .rptr id idx c, v, _, hx => by
  simp only [Rep] at hx
  omega
 | .map id, v, _, hx => by
  simp only [Rep] at hx
  omega
 | .cptr cs, v, _, hx => by
  simp only [Rep] at hx ⊢
  obtain ⟨b, o, rfl, hc⟩ := hx
  exact ⟨b, o, rfl, RepC.monoK h cs b o hc⟩
 | .tptr _, _, hn, _ => by simp [noT] at hn
 | .cmap _ _, _, hn, _ => by simp [noT] at hn
 | .iface t x, v, hn, hx => by
  simp only [noT] at hn
  simp only [Rep] at hx ⊢
  obtain ⟨u, rfl, hu⟩ := hx
  exact ⟨u, rfl, Rep.mono1 h x u hn hu⟩
 | .ite c x y, v, hn, hx => by
  simp only [noT, Bool.and_eq_true] at hn
  simp only [Rep] at hx ⊢
  exact ⟨fun hc => Rep.mono1 h x v hn.1 (hx.1 hc), fun hc => Rep.mono1 h y v hn.2 (hx.2 hc)⟩
 | .opt c x, v, hn, hx => by
  simp only [noT] at hn
  simp only [Rep] at hx ⊢
  exact ⟨fun hc => Rep.mono1 h x v hn (hx.1 hc), hx.2⟩
 | .raw _, _, _, hx => by simpa only [Rep] using hx
 | .top, _, _, _ => by simp only [Rep]
theorem RepL.mono1 (h : KF m m') : ∀ (xs : List AV) (vs : List Value), noTL xs = true → RepL m 1 xs vs → RepL m' 1 xs vs
 | [], _, _, hx => by simpa only [RepL] using hx
 | x :: xs, vs, hn, hx => by
  simp only [noTL, Bool.and_eq_true] at hn
  simp only [RepL] at hx ⊢
  obtain ⟨v, rest, rfl, hv, hr⟩ := hx
  exact ⟨v, rest, rfl, Rep.mono1 h x v hn.1 hv, RepL.mono1 h xs rest hn.2 hr⟩
end
def noTBm : ABlk → Bool
 | .cells cs => noTL cs
 | .row _ _ _ => true
 | .amap ks vs => noTL ks && noTL vs
 | .lp _ _ => true
 | .it _ _ => false
 | .full _ _ => true
theorem BlkRep.mapTm (h : MapF m m' π) {ri : RI} {x : ABlk} (hb : ri.isNil = false → m'.w.heap[ri.b]? = m.w.heap[ri.b]?) (hP : ri.isNil = false → ¬ m'.Pr ri.b) (hF : ri.isNil = false → ∀ o, m'.F ri.b o → m.F ri.b o)
  (hn : noTBm x = true) (hx : BlkRep m ri x) : BlkRep m' ri (renB π x) := by
 cases x with
 | cells cs =>
  obtain ⟨h1, h2, h3, c, T, h4, h5⟩ := hx
  exact ⟨h1, hP h1, fun o ho => h3 o (hF h1 o ho), c, T, (hb h1).trans h4, RepL.mapT h _ _ hn h5⟩
 | row sz es own => exact RowRep.mapT h hb hP hF hx
 | full sz es => exact ⟨RowRep.mapT h hb hP hF hx.1, hx.2⟩
 | amap ks vs =>
  simp only [noTBm, Bool.and_eq_true] at hn
  obtain ⟨h1, h2, h3, kv, vv, es, cl, h4, h5, h6, h7⟩ := hx
  exact ⟨h1, hP h1, fun o ho => h3 o (hF h1 o ho), kv, vv, es, cl, (hb h1).trans h4, h5, RepL.mono1 h.kf _ _ hn.1 h6, RepL.mono1 h.kf _ _ hn.2 h7⟩
 | lp l rc =>
  obtain ⟨h1, h2, h3, h4, h5⟩ := hx
  exact ⟨h1, hP h1, fun o ho => h3 o (hF h1 o ho), h4, (hb h1).trans h5⟩
 | it left cur => cases hn
end

def noTHm : List (Nat × ABlk) → Bool
 | [] => true
 | p :: r => noTBm p.2 && noTHm r
theorem noTHm_mem : ∀ {hp : List (Nat × ABlk)} {i : Nat} {y : ABlk}, noTHm hp = true → (i, y) ∈ hp → noTBm y = true
 | p :: r, i, y, h, hm => by
  simp only [noTHm, Bool.and_eq_true] at h
  rcases List.mem_cons.1 hm with e | hm
  ·rw [show y = p.2 from by rw [← e]]; exact h.1
  ·exact noTHm_mem h.2 hm
section
variable {hp hp0 hp' : List (Nat × ABlk)} {nx nx' : Nat} {L : List Nat} {m m' : Mem}
theorem outerH_simHm (hH : SimH m hp nx) (hL : ∀ id ∈ L, (get hp id).isSome = true) (_ : L.Nodup) (h : (m.innerH L nx).le m') (hH' : SimH m' hp' nx') (hs : solo hp' = true) (hn : noTHm hp' = true) (hge : L.length ≤ nx') :
  SimH (m.outerH m' L nx) (appHp (dels hp L) (renHp (bk L nx) hp')) (nx + (nx' - L.length)) := by
 have hLn : ∀ id ∈ L, id < nx := fun id hid => by
  obtain ⟨x, hx⟩ := Option.isSome_iff_exists.1 (hL id hid)
  obtain ⟨ri, hr, _⟩ := hH.blk id x hx
  exact rho_lt hH hr
 have hPr : m'.Pr = (m.innerH L nx).Pr := h.Pr
 have hold : ∀ id x ri, get (dels hp L) id = some x → m.ρ id = some ri → ri.isNil = false → (m.innerH L nx).Pr ri.b := by
  intro id x ri hx hr hn
  obtain ⟨h1, h2⟩ := get_dels hx
  obtain ⟨ri', hr', hb⟩ := hH.blk id x h1
  obtain rfl : ri' = ri := Option.some.inj (hr'.symm.trans hr)
  refine ⟨hb.lt hn, fun j hj rj hrj hnj => ?_⟩
  obtain ⟨y, hy⟩ := Option.isSome_iff_exists.1 (hL j hj)
  exact hH.apart j id y x rj ri' hy h1 hrj hr (fun e => h2 (e ▸ hj)) hnj hn
 have hnew : ∀ id x, get (renHp (bk L nx) hp') id = some x → ∃ i y ri, get hp' i = some y ∧ bk L nx i = id ∧ x = renB (bk L nx) y ∧ m'.ρ i = some ri ∧ BlkRep m' ri y ∧ noTBm y = true := by
  intro id x hx
  obtain ⟨i, y, h1, h2, h3⟩ := get_renHp hx
  have h4 := get_of_mem hs h1
  obtain ⟨ri, h5, h6⟩ := hH'.blk i y h4
  exact ⟨i, y, ri, h4, h2, h3, h5, h6, noTHm_mem hn h1⟩
 have hrho : ∀ id x, get (dels hp L) id = some x → (m.outerH m' L nx).ρ id = m.ρ id := by
  intro id x hx
  obtain ⟨ri, hr, _⟩ := hH.blk id x (get_dels hx).1
  show (if id < nx then m.ρ id else _) = m.ρ id
  rw [if_pos (rho_lt hH hr)]
 refine ⟨?_, ?_, ?_, ?_, ?_⟩
 ·intro id x hx
  rcases get_appHp hx with hx | hx
  ·obtain ⟨h1, h2⟩ := get_dels hx
   obtain ⟨ri, hr, hb⟩ := hH.blk id x h1
   refine ⟨ri, (hrho id x hx).trans hr, ?_⟩
   have hk := outerH_keeps hH hL h
   have hm : MapOk m (m.outerH m' L nx) (fun i => i) := ⟨hk.Pr, hk.block, hk.F, hk.cell, hk.ρ⟩
   have := BlkRep.map hm (fun hn => h.block ri.b (hold id x ri hx hr hn)) (fun hn => hb.noPr hn) (fun hn o hf => h.new ri.b o (hold id x ri hx hr hn) hf) hb
   rw [renB_id] at this
   exact this
  ·obtain ⟨i, y, ri, h1, h2, h3, h4, h5, h6⟩ := hnew id x hx
   subst h2 h3
   refine ⟨ri, bk_map hH hL h h4, BlkRep.mapTm (bk_mapF hH hL h) (fun _ => rfl) (fun hn hp => ?_) (fun _ _ h => h) h6 h5⟩
   exact h5.noPr hn (hPr ▸ (innerH_map hH hL).Pr _ hp)
 ·intro id id' x x' ri ri' hx hx' hr hr' hne hn1 hn2
  rcases get_appHp hx with hx | hx <;> rcases get_appHp hx' with hx' | hx'
  ·rw [hrho id x hx] at hr
   rw [hrho id' x' hx'] at hr'
   exact hH.apart id id' x x' ri ri' (get_dels hx).1 (get_dels hx').1 hr hr' hne hn1 hn2
  ·rw [hrho id x hx] at hr
   obtain ⟨i, y, rj, h1, h2, h3, h4, h5, h6⟩ := hnew id' x' hx'
   subst h2
   rw [bk_map hH hL h h4] at hr'
   injection hr' with hr'
   subst hr'
   intro e
   exact h5.noPr hn2 (hPr ▸ e ▸ hold id x ri hx hr hn1)
  ·rw [hrho id' x' hx'] at hr'
   obtain ⟨i, y, rj, h1, h2, h3, h4, h5, h6⟩ := hnew id x hx
   subst h2
   rw [bk_map hH hL h h4] at hr
   injection hr with hr
   subst hr
   intro e
   exact h5.noPr hn1 (hPr ▸ e ▸ hold id' x' ri' hx' hr' hn2)
  ·obtain ⟨i, y, rj, h1, h2, h3, h4, h5, h6⟩ := hnew id x hx
   obtain ⟨i', y', rj', g1, g2, g3, g4, g5, g6⟩ := hnew id' x' hx'
   subst h2 g2
   rw [bk_map hH hL h h4] at hr
   rw [bk_map hH hL h g4] at hr'
   injection hr with hr
   injection hr' with hr'
   subst hr hr'
   exact hH'.apart i i' y y' rj rj' h1 g1 h4 g4 (fun e => hne (by rw [e])) hn1 hn2
 ·intro id hid
  show (if id < nx then m.ρ id else m'.ρ (L.length + (id - nx))) = none
  rw [if_neg (by omega)]
  exact hH'.fresh _ (by omega)
 ·exact hH'.Fold
 ·intro b hb
  exact hH'.Pold b (hPr ▸ (innerH_map hH hL).Pr b hb)end
def backOkm (L : List Nat) (hp' : List (Nat × ABlk)) (nx' : Nat) : Bool := solo hp' && (noTHm hp' && decide (L.length ≤ nx'))
attribute [go_sem] noTBm noTHm backOkm
end Aw
