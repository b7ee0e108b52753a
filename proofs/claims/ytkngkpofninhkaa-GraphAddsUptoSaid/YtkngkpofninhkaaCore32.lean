/- Rules of a calculus of walks: no condition of its own. -/
import Derived.Test.YtkngkpofninhkaaCore31
import Derived.RangeFuncNested
namespace Aw
open Go

/-- what the machine does behind the loop when a round ends so -/
def jumpOf : AX → Option (Option Code)
  | .normal => some none
  | .ret => some (some .ret)
  | .exit id => some (some (.exit id))
  | .panic _ => none

def setAll : List (Nat × AV) → List Nat → List AV → List (Nat × AV)
  | E, p :: ps, x :: xs => setAll (set E p x) ps xs
  | E, _, _ => E
def setTmps : Array Value → List Nat → List Value → Array Value
  | t, p :: ps, v :: vs => setTmps (t.setIfInBounds p v) ps vs
  | t, _, _ => t
theorem foldl_zip : ∀ (ps : List Nat) (vs : List Value) (t : Array Value), (ps.zip vs).foldl (fun tmps x => tmps.setIfInBounds x.1 x.2) t = setTmps t ps vs
  | [], _, _ => by simp [setTmps]
  | _ :: _, [], _ => by simp [setTmps]
  | p :: ps, v :: vs, t => by
    simp only [List.zip_cons_cons, List.foldl_cons, setTmps]
    exact foldl_zip ps vs _
theorem setTmps_eq (ps : List Nat) (vs : List Value) (t : Array Value) :
    (ps.toArray.zip vs.toArray).foldl (fun tmps (x : Tmp × Value) => tmps.setIfInBounds x.1 x.2) t = setTmps t ps vs := by
  rw [← foldl_zip, ← Array.foldl_toList]
  simp
theorem setTmps_size : ∀ (ps : List Nat) (vs : List Value) (t : Array Value), (setTmps t ps vs).size = t.size
  | [], _, _ => by simp [setTmps]
  | _ :: _, [], _ => by simp [setTmps]
  | p :: ps, v :: vs, t => by
    rw [setTmps, setTmps_size ps vs]
    simp
theorem setTmps_env {m : Mem} {n : Nat} : ∀ {ps : List Nat} {xs : List AV} {vs : List Value} {t : Array Value} {E : List (Nat × AV)}, t.size = n → (∀ p ∈ ps, p < n) → RepL m 0 xs vs →
    (∀ i y, get E i = some y → i < n ∧ Rep m 0 y (t.getD i undef)) → ∀ i y, get (setAll E ps xs) i = some y → i < n ∧ Rep m 0 y ((setTmps t ps vs).getD i undef)
  | [], xs, vs, t, E, _, _, _, h => by simpa [setAll, setTmps] using h
  | p :: ps, [], vs, t, E, _, _, hx, h => by
    simp only [RepL] at hx
    subst hx
    simpa [setAll, setTmps] using h
  | p :: ps, x :: xs, vs, t, E, hn, hp, hx, h => by
    simp only [RepL] at hx
    obtain ⟨v, rest, rfl, hv, hr⟩ := hx
    simp only [setAll, setTmps]
    refine setTmps_env (by simpa using hn) (fun q hq => hp q (List.mem_cons_of_mem _ hq)) hr ?_
    intro i y hy
    rw [get_set] at hy
    split at hy
    · rename_i e
      subst e
      injection hy with hy
      subst hy
      have hlt := hp p List.mem_cons_self
      refine ⟨hlt, ?_⟩
      have : (t.setIfInBounds p v).getD p undef = v := by simp [show p < t.size by omega]
      rw [this]
      exact hv
    · rename_i hne
      obtain ⟨h1, h2⟩ := h i y hy
      refine ⟨h1, ?_⟩
      have : (t.setIfInBounds p v).getD i undef = t.getD i undef := by simp [Array.getElem?_setIfInBounds_ne hne]
      rw [this]
      exact h2

section
variable {m : Mem} {hp : List (Nat × ABlk)} {nx l k : Nat} {rc rc' : Loop}
/-- a record that is one's own, read and turned -/
theorem SimH.lp (hH : SimH m hp nx) (hg : get hp k = some (.lp l rc)) :
    m.w.heap[l]? = some (.loop rc) ∧ ¬ m.Pr l ∧ ∃ ri, m.ρ k = some ri ∧ ri.isNil = false ∧ ri.b = l ∧ ∀ rc', m.le (m.turn l (.loop rc')) ∧ m.keeps (m.turn l (.loop rc')) ∧ SimH (m.turn l (.loop rc')) (set hp k (.lp l rc')) nx := by
  obtain ⟨ri, hr, h1, h2, h3, h4, h5⟩ := hH.blk k _ hg
  subst h4
  refine ⟨h5, h2, ri, hr, h1, rfl, fun rc' => ?_⟩
  have hU : Upd m (m.turn ri.b (.loop rc')) ri.b := Upd.set hH h2 (fun o h => (h3 o h).elim)
  refine ⟨hU.le hH, hU.keeps hH, ?_⟩
  refine hH.upd hU (k := k) (ri := ri) (blk := .lp ri.b rc') hr ⟨h1, h2, h3, rfl, World.putObj_heap_same (Array.getElem?_eq_some_iff.1 h5).1⟩ (fun _ => rfl) (by rw [get_set, if_pos rfl]) ?_ hH.fresh
  intro j hj z hz
  rw [get_set, if_neg (Ne.symm hj)] at hz
  exact ⟨hz, hH.sole hg hr h1 j hj z hz⟩
end

/-- a round that may end the loop, out of its body -/
theorem RoundT.ofB {P : Program} {gl : List (Nat × AV)} {hp : List (Nat × ABlk)} {nx : Nat} {M0 : Mem} {l k : Nat} {rc : Loop} {ps : List Tmp} {E : List (Nat × AV)} {xs : List AV} {R : AE → List (Nat × ABlk) → Nat → Prop}
    (hgk : get hp k = some (.lp l rc)) (hst : rc.state = .ready) (hps : rc.params = ps.toArray) (hE : ∀ t y, get E t = some y → t < rc.tmps.size ∧ Rep M0 0 y (rc.tmps.getD t undef)) (hp' : ∀ p ∈ ps, p < rc.tmps.size) (hxl : xs.length = ps.length)
    (h : AWT 0 (some l) (fun _ => True) P rc.assign ⟨rc.tmps.size, setAll E ps xs, hp, nx, gl, nx, []⟩
      (fun ax σ' => ax = .normal ∧ get σ'.hp k = some (.lp l rc) ∧ AWT 0 (some l) (fun _ => True) P rc.body ⟨σ'.n, σ'.env, set σ'.hp k (.lp l { rc with state := .busy }), σ'.nx, σ'.gl, σ'.np, σ'.df⟩
        (fun ax σ'' => ∃ j, jumpOf ax = some j ∧ ∃ σ3, St.le σ3 σ'' ∧ get σ3.hp k = some (.lp l { rc with state := .busy }) ∧ noTHm σ3.hp = true ∧
          R (.ret (.bool j.isNone)) (set σ3.hp k (.lp l { rc with state := if j.isNone then .ready else .done, pending := j })) σ3.nx))) : RoundT (Kept M0) P gl l xs hp nx R := by
  intro m vs hm hk hv
  obtain ⟨hml, hmP, _⟩ := hm.h.lp hgk
  have hlen := hv.length
  refine ⟨rc, hml, by rw [hps]; simp [← hxl, hlen], ?_⟩
  refine roundIn_of_wpIn (F := Fr none) (n := 0) trivial ?_
  rw [hps, setTmps_eq]
  have hS : Sim m { tmps := setTmps rc.tmps ps vs, defers := [] } ⟨rc.tmps.size, setAll E ps xs, hp, nx, gl, nx, []⟩ :=
    ⟨hm.h, setTmps_size _ _ _, rfl, setTmps_env rfl hp' hv (fun t y hy => ⟨(hE t y hy).1, Rep.mono hk.k 0 _ _ (hE t y hy).2⟩), hm.gl, hm.np⟩
  have hS0 : SimT 0 m { tmps := setTmps rc.tmps ps vs, defers := [] } ⟨rc.tmps.size, setAll E ps xs, hp, nx, gl, nx, []⟩ := ⟨hS, ⟨fun _ h => (by cases h), List.Pairwise.nil⟩, Nat.zero_le _⟩
  refine wpIn_mono (h m _ hS0 trivial) ?_
  rintro e a1 w1 ⟨m1, σ1, ax, rfl, l1, s1, hex, rfl, hg1, hbody⟩
  simp only [exOk] at hex
  subst hex
  obtain ⟨h1l, h1P, _, _, _, _, h1t⟩ := s1.s.h.lp hg1
  obtain ⟨t1, t2, t3⟩ := h1t { rc with state := .busy }
  refine ⟨_, run_beginRound h1l hst, ?_⟩
  have s2 : SimT 0 (m1.turn l (.loop { rc with state := .busy })) a1 ⟨σ1.n, σ1.env, set σ1.hp k (.lp l { rc with state := .busy }), σ1.nx, σ1.gl, σ1.np, σ1.df⟩ := ⟨s1.s.of t2 t3, s1.marks.le t1.t, Nat.zero_le _⟩
  refine wpIn_mono (hbody (m1.turn l (.loop { rc with state := .busy })) a1 s2 trivial) ?_
  rintro e a3 w3 ⟨m3', σ3', ax, rfl, l3', s3', hex, j, hj, σ3, hle3, hg3, hnT, hR⟩
  obtain ⟨m3, e3, l3'', s3⟩ := s3'.le hle3
  have l3 := l3'.trans l3''
  obtain ⟨h3l, h3P, _, _, _, _, h3t⟩ := s3.s.h.lp hg3
  obtain ⟨u1, u2, u3⟩ := h3t { rc with state := if j.isNone then .ready else .done, pending := j }
  have hend : ∃ v w', (Instr.endRound l j).run P m3.w = .ok v w' ∧ ∃ m' r hp' nx', m'.w = w' ∧ m.le m' ∧ SimH m' hp' nx' ∧ endOkH m' r (.returned v) ∧ R r hp' nx' := by
    refine ⟨_, _, run_endRound j h3l, ?_⟩
    have hle : m.leT (m3.turn l (.loop { rc with state := if j.isNone then .ready else .done, pending := j })) := ((l1.trans t1.t).trans l3).trans u1.t
    have hnT' : noTHm (set σ3.hp k (.lp l { rc with state := if j.isNone then .ready else .done, pending := j })) = true := by
      have key : ∀ hp : List (Nat × ABlk), noTHm hp = true → noTHm (set hp k (.lp l { rc with state := if j.isNone then .ready else .done, pending := j })) = true := by
        intro hp
        induction hp with
        | nil => intro _; rfl
        | cons p r ih =>
          intro hh
          simp only [noTHm, Bool.and_eq_true] at hh
          obtain ⟨i, x⟩ := p
          simp only [set]
          split
          · simp only [noTHm, noTBm, Bool.true_and]; exact hh.2
          · simp only [noTHm, Bool.and_eq_true]; exact ⟨hh.1, ih hh.2⟩
      exact key _ hnT
    exact ⟨(m3.turn l _).shrink m, .ret (.bool j.isNone), _, _, rfl, shrink_le hle, shrink_simH hle u3 hnT', ⟨_, rfl, by simp only [Rep]⟩, hR⟩
  rw [← e3]
  cases ax with
  | normal =>
    simp only [exOk] at hex
    simp only [jumpOf, Option.some.injEq] at hj
    subst hex hj
    exact hend
  | ret =>
    simp only [exOk] at hex
    simp only [jumpOf, Option.some.injEq] at hj
    subst hex hj
    exact hend
  | exit id =>
    simp only [exOk] at hex
    simp only [jumpOf, Option.some.injEq] at hj
    subst hex hj
    exact hend
  | panic x => cases hj
end Aw
