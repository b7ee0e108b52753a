/- Rules of a calculus of walks: no condition of its own. -/
import Derived.Test.YtlamdhcfojligaaGreatCore39
namespace Aw
open Go
theorem repL_split {m : Mem} {k : Nat} : ∀ (xs ys : List AV) (vs : List Value),RepL m k (xs ++ ys) vs → ∃ us ws,vs = us ++ ws ∧ RepL m k xs us ∧ RepL m k ys ws
 | [],_,vs,h=>⟨[],vs,rfl,by simp only [RepL],h⟩
 | x :: xs,ys,vs,h=>by
  simp only [List.cons_append,RepL] at h
  obtain ⟨v,rest,rfl,hx,hr⟩:=h
  obtain ⟨us,ws,rfl,h1,h2⟩:=repL_split xs ys rest hr
  exact ⟨v :: us,ws,rfl,by simp only [RepL]; exact ⟨_,_,rfl,hx,h1⟩,h2⟩
theorem FnK.nil {P : Program} {gl : List (Nat × AV)} {f : FuncId} {xs : List AV} {sz : Nat} {own : Bool} {R : AE → List (Nat × ABlk) → Nat → Prop} (h : FnK P gl f (xs ++ [.row 0 0 0]) [(0,.row sz [] own)] 1 0 R) : FnH P gl f (xs ++ [.raw (.slice none 0 0)]) [] 0 R:=by
 refine ⟨h.enters,fun m vs hm hv=>?_⟩
 have hr : ∀ id,m.ρ id = none:=fun id=>hm.h.fresh id (Nat.zero_le _)
 have hk : m.keeps { m with ρ:=fun id=>if id = 0 then some ⟨0,0,0,sz,true⟩ else none }:=⟨rfl,fun _ h=>h,fun _ _=>rfl,fun _ _ h=>h,fun _ _ _=>rfl,fun id ri h=>by rw [hr id] at h; cases h⟩
 have hS : SimH { m with ρ:=fun id=>if id = 0 then some ⟨0,0,0,sz,true⟩ else none } [(0,.row sz [] own)] 1:=by
  refine ⟨fun id x hx=>?_,fun id id' x x' ri ri' hx hx' h1 h2 hne=>?_,fun id hid=>?_,hm.h.Fold,hm.h.Pold⟩
  ·simp only [get] at hx
   split at hx
   ·rename_i e
    subst e
    injection hx with hx
    subst hx
    exact ⟨⟨0,0,0,sz,true⟩,rfl,.inl ⟨rfl,rfl⟩⟩
   ·cases hx
  ·simp only [get] at hx hx'
   split at hx
   ·split at hx'
    ·rename_i e e'
     exact absurd (e.symm.trans e') hne
    ·cases hx'
   ·cases hx
  ·show (if id = 0 then _ else none) = none
   rw [if_neg (by omega)]
 have hv2 : RepL { m with ρ:=fun id=>if id = 0 then some ⟨0,0,0,sz,true⟩ else none } 0 (xs ++ [.row 0 0 0]) vs:=by
  obtain ⟨us,ws,rfl,h1,h2⟩:=repL_split xs _ vs hv
  simp only [RepL,Rep] at h2
  obtain ⟨w,_,rfl,rfl,rfl⟩:=h2
  refine RepL.append (RepL.mono hk 0 _ _ h1) ?_
  simp only [RepL,Rep]
  exact ⟨_,_,rfl,⟨trivial,⟨0,0,0,sz,true⟩,by simp,.inl ⟨rfl,rfl,rfl,rfl⟩⟩,rfl⟩
 refine (h.calls _ vs ⟨hS,fun g x hg=>Rep.mono hk 1 _ _ (hm.gl g x hg),hm.np,Nat.zero_le _⟩ hv2).mono ?_
 rintro e w' ⟨m',r,hp',nx',rfl,hle,hH,hen,hR⟩
 exact ⟨m',r,hp',nx',rfl,⟨hle.os,hle.tape,hle.output,hle.size,hle.Pr,hle.block,hle.F,hle.cell,hle.new,hle.np,fun id ri _ hr'=>by rw [hr id] at hr'; cases hr'⟩,hH,hen,hR⟩
end Aw
