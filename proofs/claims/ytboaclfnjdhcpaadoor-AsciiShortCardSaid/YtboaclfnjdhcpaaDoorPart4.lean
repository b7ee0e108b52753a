/- A part of the proof: no condition of its own. -/
import Derived.Test.YtboaclfnjdhcpaaDoorPart3
namespace Go.Proofs
open Go Aw
set_option linter.unusedSimpArgs false
set_option linter.unusedVariables false
set_option maxRecDepth 100000
set_option maxHeartbeats 4000000
attribute [local go_sem] bldP GA List.getD_cons_zero List.getD_cons_succ List.headD_cons
theorem awGuard.gN {P : Program} {ds : List (Option Tmp)} {σ : St} {o : Oper} {K : St → Prop} {Kp : AV → St → Prop} (y : AV) {p : Nat × Bool} (hK : K (σ.put o.dst (.opt false y))) (hg : o.guard = some p:=by exact rfl) (hgv : gAt ds σ p.1 p.2 = some false:=by (try simp only [go_sem,seval]) <;> (try exact rfl)) (hn : pureOp P σ false o.op = none:=by (try simp only [go_sem,seval]) <;> (try exact rfl)) (hd : dstOk σ.n o.dst = true:=by simp only [go_sem,seval]) : awGuard P ds o σ K Kp:=by
 unfold awGuard
 rw [hg]
 simp only
 rw [hgv]
 simp only
 rw [hn]
 simp only
 exact .inr ⟨y,hd,(fun ht=>by cases ht),hK⟩
def bw (wr : Bool) (j : Nat) : Bool:=decide (0 < j) || wr
def dg (acc : List UInt8) (v : Nat) : Nat → List UInt8
 | 0=>acc
 | j + 1=>dg acc v j ++ [chF v j]
theorem dg_len (acc : List UInt8) (v : Nat) : ∀ j,(dg acc v j).length = acc.length + j
 | 0=>rfl
 | j + 1=>by rw [dg,List.length_append,dg_len acc v j] <;> rfl
theorem chv (v k p : Nat) (hp : 85 ^ (4 - k) = p) : (33 : Int) + (v : Int) / (p : Int) % 85 = ((chF v k).toNat : Int):=by
 rw [ch_nat,digF,hp]
 push_cast
 rfl
theorem chv0 (v : Nat) : (33 : Int) + (v : Int) / 52200625 % 85 = ((chF v 0).toNat : Int):=chv v 0 52200625 rfl
theorem chv1 (v : Nat) : (33 : Int) + (v : Int) / 614125 % 85 = ((chF v 1).toNat : Int):=chv v 1 614125 rfl
theorem chv2 (v : Nat) : (33 : Int) + (v : Int) / 7225 % 85 = ((chF v 2).toNat : Int):=chv v 2 7225 rfl
theorem chv3 (v : Nat) : (33 : Int) + (v : Int) / 85 % 85 = ((chF v 3).toNat : Int):=chv v 3 85 rfl
theorem chv4 (v : Nat) : (33 : Int) + (v : Int) / 1 % 85 = ((chF v 4).toNat : Int):=chv v 4 1 rfl
theorem wrapA (a : UInt8) : IntKind.u64.wrap (a.toNat : Int) = (a.toNat : Int):=wrap64 _ (by have:=a.toNat_lt; omega)
theorem chunk_cases (p : List UInt8) (h1 : 1 ≤ p.length) (h2 : p.length ≤ 4) : (∃ a,p = [a]) ∨ (∃ a b,p = [a,b]) ∨ (∃ a b c,p = [a,b,c]) ∨ (∃ a b c d,p = [a,b,c,d]):=by
 match p,h1,h2 with
 | [a],_,_=>exact .inl ⟨a,rfl⟩
 | [a,b],_,_=>exact .inr (.inl ⟨a,b,rfl⟩)
 | [a,b,c],_,_=>exact .inr (.inr (.inl ⟨a,b,c,rfl⟩))
 | [a,b,c,d],_,_=>exact .inr (.inr (.inr ⟨a,b,c,d,rfl⟩))
 | _ :: _ :: _ :: _ :: _ :: _,_,h=>exact absurd h (by simp)
theorem grp_or1 (a : UInt8) : bitOr .u64 (bitOr .u64 (bitOr .u64 (bitShl .u64 (a.toNat : Int) 24) (bitShl .u64 0 16)) (bitShl .u64 0 8)) 0 = ((grp4 a 0 0 0 : Nat) : Int):=grp_or a 0 0 0
theorem grp_or2 (a b : UInt8) : bitOr .u64 (bitOr .u64 (bitOr .u64 (bitShl .u64 (a.toNat : Int) 24) (bitShl .u64 (b.toNat : Int) 16)) (bitShl .u64 0 8)) 0 = ((grp4 a b 0 0 : Nat) : Int):=grp_or a b 0 0
theorem grp_or3 (a b c : UInt8) : bitOr .u64 (bitOr .u64 (bitOr .u64 (bitShl .u64 (a.toNat : Int) 24) (bitShl .u64 (b.toNat : Int) 16)) (bitShl .u64 (c.toNat : Int) 8)) 0 = ((grp4 a b c 0 : Nat) : Int):=grp_or a b c 0
theorem c_ascii_Five (s : List UInt8) (hs : s.length ≤ 1000000) : FnP Tryd.prog GA 16 [.str s] fun r=>r = .ret (.str (fiveE s)):=by
 refine FnP.introM Tryd.func16 rfl rfl (by simp [Tryd.ntmps16]) (by rintro q rfl; exact ⟨_,rfl⟩) ?_
 intro B_
 simp only [argEnv,Tryd.ntmps16,Tryd.results16]
 refine AWT.rS ?_
 refine AWT.rS ?_
 refine AWT.pre (St.le.nilcellB 0 1 5 rfl rfl) ?_
 refine AWT.pre (St.le.tcLess 0 0 (bldP false 0) rfl rfl bldP_f) ?_
 refine AWT.seq ?_
 refine AWT.rSC ?_
 refine OpsT.cN [] (FnT.ofH (h_chunk GA s)) ?_
 refine OpsT.rn ?_
 refine OpsT.nil ?_
 refine AWT.block ?_
 refine AWT.rU [0,3,4] [1] [(3,.ptr 0 0)] (fun j h k=>j = none ∧ (∃ rl lq,h = cHp s (fiveB s) (decide (0 < chunksN s.length)) (.lp lq rl)) ∧ k = 5) (xs:=[.ptr 1 0,.ptr 2 0]) (hp0:=[(0,.tc 52 [bldP false 0,.row 4 0 0]),(1,.cells [.sl (bytesAV s)]),(2,.cells [.int .i64 4]),(4,.brow 5 [])]) ?_ ?_
 ·intro Ω _ lq rb rc hr
  have hend : fiveB (s.take (chunksN s.length * 4)) = fiveB s:=by rw [List.take_of_length_le (by unfold chunksN; omega)]
  refine (chunk_B s (fun k=>(fiveB (s.take (k * 4)),decide (0 < k))) lq rc (by omega) (fun k hk=>?_)).mono (fun q hp nx hh=>by
   obtain ⟨h1,rfl,rfl⟩:=hh
   subst h1
   simp only [hend]
   exact ⟨⟨_,rfl⟩,none,rfl,rfl,⟨_,_,rfl⟩,trivial⟩)
  have hst:=chunk_step s k hk
  have hw : decide (0 < k + 1) = true:=by simp
  have hcl:=chunk_len s k
  have hcb:=fiveB_bound (s.take (k * 4))
  rw [List.length_take] at hcb
  simp only [hst,hw]
  generalize fiveB (s.take (k * 4)) = acc at *
  generalize decide (0 < k) = wr at *
  generalize chunkL s k = p at *
  rcases chunk_cases p (by omega) (by omega) with ⟨a,rfl⟩ | ⟨a,b,rfl⟩ | ⟨a,b,c,rfl⟩ | ⟨a,b,c,d,rfl⟩
  ·refine hr [_] _ 5 _ rfl rfl ?_
   refine AWT.rL ?_
   refine ⟨rfl,rfl,?_⟩
   refine AWT.block ?_
   refine AWT.rS ?_
   refine AWT.rS ?_
   refine AWT.rSC ?_
   refine OpsT.cs (awGuard.slF ?_)
   refine OpsT.rn ?_
   refine OpsT.cs (awGuard.cpT (l:=[a]) (n:=4) (by simp) ?_)
   refine OpsT.nil ?_
   refine AWT.vw [0,1,2,3,4,5] [(3,.ptr 0 0),(5,.int .i64 1),(6,.ptr 5 0)] [(0,.tc 52 [bldP wr 0,.row 4 0 acc.length]),(1,.cells [.sl (bytesAV s)]),(2,.cells [.int .i64 4]),(3,.lp lq rb),(4,.brow 5 acc),(5,.tc 56 [.int .u8 a.toNat,.int .u8 0,.int .u8 0,.int .u8 0])] (hpre:=(by decide : ∀ i,i < 4 → nth [0,1,2,3,4,5] i = some i)) ?_ ?_
   ·exact rfl
   refine AWT.seq ?_
   refine AWT.rSC ?_
   refine OpsT.cs (awGuard.gN (.bool true) ?_)
   refine OpsT.cs (awGuard.gN (.bool true) ?_)
   refine OpsT.rn ?_
   refine OpsT.nil ?_
   refine AWT.c2 ?_ ?_
   ·intro h; revert h; simp
   intro _
   refine AWT.skip ?_
   change AWT _ _ _ _ _ _ _
   refine AWT.vw [0,1,2,3,4,5] [(3,.ptr 0 0),(5,.int .i64 1),(6,.ptr 5 0)] [(0,.tc 52 [bldP wr 0,.row 4 0 acc.length]),(1,.cells [.sl (bytesAV s)]),(2,.cells [.int .i64 4]),(3,.lp lq rb),(4,.brow 5 acc),(5,.tc 56 [.int .u8 a.toNat,.int .u8 0,.int .u8 0,.int .u8 0])] (hpre:=(by decide : ∀ i,i < 4 → nth [0,1,2,3,4,5] i = some i)) (q:=True) (hhp:=by intro _; (try dsimp only) <;> (try simp only [go_sem,seval])) trivial ?_
   refine AWT.rS ?_
   rw [wrapA a,grp_or1 a]
   have hv : grp4 a 0 0 0 < 4294967296:=grp_lt _ _ _ _
   have hfin : acc ++ fiveB [a] = dg acc (grp4 a 0 0 0) 2:=by simp [dg,fiveB]
   generalize hgv : grp4 a 0 0 0 = v at *
   refine AWT.rSC ?_
   refine OpsT.cs (awGuard.slC (n:=5) (h:=2) ⟨by decide,by decide⟩ ?_)
   refine OpsT.rn ?_
   refine OpsT.nil ?_
   refine AWT.block ?_
   refine AWT.vw [0,1,2,3,4] [(3,.ptr 0 0),(7,.int .u64 v),(48,.sl [[.int .u64 52200625],[.int .u64 614125]]),(49,.int .i64 2),(50,.int .i64 0)] [(0,.tc 52 [bldP wr 0,.row 4 0 acc.length]),(1,.cells [.sl (bytesAV s)]),(2,.cells [.int .i64 4]),(3,.lp lq rb),(4,.brow 5 acc)] (hpre:=(by decide : ∀ i,i < 4 → nth [0,1,2,3,4] i = some i)) (q:=True) (hhp:=by intro _; (try dsimp only) <;> (try simp only [go_sem,seval])) trivial ?_
   refine AWT.lk (S:={ j : Nat // j ≤ 2 }) [3,7,48,49] (fun s_=>[(50,.int .i64 ((s_.1 : Nat) : Int))]) (fun s_=>[(0,.tc 52 [bldP (bw wr s_.1) 0,.row 4 0 (dg acc v s_.1).length]),(1,.cells [.sl (bytesAV s)]),(2,.cells [.int .i64 4]),(3,.lp lq rb),(4,.brow 5 (dg acc v s_.1))]) 5 (fun s_=>2 - s_.1) ⟨0,by decide⟩ ?_ ?_
   ·refine St.le.vw [0,1,2,3,4] (hpre:=(by decide : ∀ i,i < 4 → nth [0,1,2,3,4] i = some i)) 
   rintro ⟨j,hj⟩
   have hjc : j = 0 ∨ j = 1 ∨ j = 2:=by omega
   rcases hjc with rfl | rfl | rfl
   ·refine AWT.rS ?_
    refine AWT.seq ?_
    refine AWT.c2 ?_ ?_
    ·intro _
     refine AWT.skip ?_
     change AWT _ _ _ _ _ _ _
     refine AWT.seq ?_
     refine AWT.block ?_
     refine AWT.rS ?_
     refine AWT.rLC ?_
     rw [chv0 v]
     refine OpsT.cs (awGuard.cK 1 [0,4] (h_WriteByte GA (bw wr 0) (dg acc v 0) (chF v 0) (by rw [dg_len]; omega)) ?_)
     refine OpsT.nil ?_
     simp only [andThen,unblock]
     refine AWT.rL ?_
     refine ⟨⟨1,by omega⟩,?_,by simp only []; omega⟩
     refine St.le.vw [0,1,2,3,5] (hpre:=(by decide : ∀ i,i < 4 → nth [0,1,2,3,5] i = some i))
    ·intro h; revert h; simp
   ·refine AWT.rS ?_
    refine AWT.seq ?_
    refine AWT.c2 ?_ ?_
    ·intro _
     refine AWT.skip ?_
     change AWT _ _ _ _ _ _ _
     refine AWT.seq ?_
     refine AWT.block ?_
     refine AWT.rS ?_
     refine AWT.rLC ?_
     rw [chv1 v]
     refine OpsT.cs (awGuard.cK 1 [0,4] (h_WriteByte GA (bw wr 1) (dg acc v 1) (chF v 1) (by rw [dg_len]; omega)) ?_)
     refine OpsT.nil ?_
     simp only [andThen,unblock]
     refine AWT.rL ?_
     refine ⟨⟨2,by omega⟩,?_,by simp only []; omega⟩
     refine St.le.vw [0,1,2,3,5] (hpre:=(by decide : ∀ i,i < 4 → nth [0,1,2,3,5] i = some i))
    ·intro h; revert h; simp
   ·refine AWT.rS ?_
    refine AWT.seq ?_
    refine AWT.c2 ?_ ?_
    ·intro h; revert h; simp
    ·intro _
     refine AWT.exit ?_
     simp only [andThen,unblock,if_true]
     rw [hfin]
     refine ⟨none,rfl,⟨64,[],[(0,.tc 52 [bldP true 0,.row 4 0 (dg acc v 2).length]),(1,.cells [.sl (bytesAV s)]),(2,.cells [.int .i64 4]),(4,.brow 5 (dg acc v 2)),(3,.lp lq rb)],5,GA,4,[]⟩,?_,rfl,by simp only [go_sem,seval],rfl,rfl,rfl⟩
     refine St.le.vw [0,1,2,3,4] (hpre:=(by decide : ∀ i,i < 4 → nth [0,1,2,3,4] i = some i))
  ·refine hr [_] _ 5 _ rfl rfl ?_
   refine AWT.rL ?_
   refine ⟨rfl,rfl,?_⟩
   refine AWT.block ?_
   refine AWT.rS ?_
   refine AWT.rS ?_
   refine AWT.rSC ?_
   refine OpsT.cs (awGuard.slF ?_)
   refine OpsT.rn ?_
   refine OpsT.cs (awGuard.cpT (l:=[a,b]) (n:=4) (by simp) ?_)
   refine OpsT.nil ?_
   refine AWT.vw [0,1,2,3,4,5] [(3,.ptr 0 0),(5,.int .i64 2),(6,.ptr 5 0)] [(0,.tc 52 [bldP wr 0,.row 4 0 acc.length]),(1,.cells [.sl (bytesAV s)]),(2,.cells [.int .i64 4]),(3,.lp lq rb),(4,.brow 5 acc),(5,.tc 56 [.int .u8 a.toNat,.int .u8 b.toNat,.int .u8 0,.int .u8 0])] (hpre:=(by decide : ∀ i,i < 4 → nth [0,1,2,3,4,5] i = some i)) ?_ ?_
   ·exact rfl
   refine AWT.seq ?_
   refine AWT.rSC ?_
   refine OpsT.cs (awGuard.gN (.bool true) ?_)
   refine OpsT.cs (awGuard.gN (.bool true) ?_)
   refine OpsT.rn ?_
   refine OpsT.nil ?_
   refine AWT.c2 ?_ ?_
   ·intro h; revert h; simp
   intro _
   refine AWT.skip ?_
   change AWT _ _ _ _ _ _ _
   refine AWT.vw [0,1,2,3,4,5] [(3,.ptr 0 0),(5,.int .i64 2),(6,.ptr 5 0)] [(0,.tc 52 [bldP wr 0,.row 4 0 acc.length]),(1,.cells [.sl (bytesAV s)]),(2,.cells [.int .i64 4]),(3,.lp lq rb),(4,.brow 5 acc),(5,.tc 56 [.int .u8 a.toNat,.int .u8 b.toNat,.int .u8 0,.int .u8 0])] (hpre:=(by decide : ∀ i,i < 4 → nth [0,1,2,3,4,5] i = some i)) (q:=True) (hhp:=by intro _; (try dsimp only) <;> (try simp only [go_sem,seval])) trivial ?_
   refine AWT.rS ?_
   rw [wrapA a,wrapA b,grp_or2 a b]
   have hv : grp4 a b 0 0 < 4294967296:=grp_lt _ _ _ _
   have hfin : acc ++ fiveB [a,b] = dg acc (grp4 a b 0 0) 3:=by simp [dg,fiveB]
   generalize hgv : grp4 a b 0 0 = v at *
   refine AWT.rSC ?_
   refine OpsT.cs (awGuard.slC (n:=5) (h:=3) ⟨by decide,by decide⟩ ?_)
   refine OpsT.rn ?_
   refine OpsT.nil ?_
   refine AWT.block ?_
   refine AWT.vw [0,1,2,3,4] [(3,.ptr 0 0),(7,.int .u64 v),(48,.sl [[.int .u64 52200625],[.int .u64 614125],[.int .u64 7225]]),(49,.int .i64 3),(50,.int .i64 0)] [(0,.tc 52 [bldP wr 0,.row 4 0 acc.length]),(1,.cells [.sl (bytesAV s)]),(2,.cells [.int .i64 4]),(3,.lp lq rb),(4,.brow 5 acc)] (hpre:=(by decide : ∀ i,i < 4 → nth [0,1,2,3,4] i = some i)) (q:=True) (hhp:=by intro _; (try dsimp only) <;> (try simp only [go_sem,seval])) trivial ?_
   refine AWT.lk (S:={ j : Nat // j ≤ 3 }) [3,7,48,49] (fun s_=>[(50,.int .i64 ((s_.1 : Nat) : Int))]) (fun s_=>[(0,.tc 52 [bldP (bw wr s_.1) 0,.row 4 0 (dg acc v s_.1).length]),(1,.cells [.sl (bytesAV s)]),(2,.cells [.int .i64 4]),(3,.lp lq rb),(4,.brow 5 (dg acc v s_.1))]) 5 (fun s_=>3 - s_.1) ⟨0,by decide⟩ ?_ ?_
   ·refine St.le.vw [0,1,2,3,4] (hpre:=(by decide : ∀ i,i < 4 → nth [0,1,2,3,4] i = some i)) 
   rintro ⟨j,hj⟩
   have hjc : j = 0 ∨ j = 1 ∨ j = 2 ∨ j = 3:=by omega
   rcases hjc with rfl | rfl | rfl | rfl
   ·refine AWT.rS ?_
    refine AWT.seq ?_
    refine AWT.c2 ?_ ?_
    ·intro _
     refine AWT.skip ?_
     change AWT _ _ _ _ _ _ _
     refine AWT.seq ?_
     refine AWT.block ?_
     refine AWT.rS ?_
     refine AWT.rLC ?_
     rw [chv0 v]
     refine OpsT.cs (awGuard.cK 1 [0,4] (h_WriteByte GA (bw wr 0) (dg acc v 0) (chF v 0) (by rw [dg_len]; omega)) ?_)
     refine OpsT.nil ?_
     simp only [andThen,unblock]
     refine AWT.rL ?_
     refine ⟨⟨1,by omega⟩,?_,by simp only []; omega⟩
     refine St.le.vw [0,1,2,3,5] (hpre:=(by decide : ∀ i,i < 4 → nth [0,1,2,3,5] i = some i))
    ·intro h; revert h; simp
   ·refine AWT.rS ?_
    refine AWT.seq ?_
    refine AWT.c2 ?_ ?_
    ·intro _
     refine AWT.skip ?_
     change AWT _ _ _ _ _ _ _
     refine AWT.seq ?_
     refine AWT.block ?_
     refine AWT.rS ?_
     refine AWT.rLC ?_
     rw [chv1 v]
     refine OpsT.cs (awGuard.cK 1 [0,4] (h_WriteByte GA (bw wr 1) (dg acc v 1) (chF v 1) (by rw [dg_len]; omega)) ?_)
     refine OpsT.nil ?_
     simp only [andThen,unblock]
     refine AWT.rL ?_
     refine ⟨⟨2,by omega⟩,?_,by simp only []; omega⟩
     refine St.le.vw [0,1,2,3,5] (hpre:=(by decide : ∀ i,i < 4 → nth [0,1,2,3,5] i = some i))
    ·intro h; revert h; simp
   ·refine AWT.rS ?_
    refine AWT.seq ?_
    refine AWT.c2 ?_ ?_
    ·intro _
     refine AWT.skip ?_
     change AWT _ _ _ _ _ _ _
     refine AWT.seq ?_
     refine AWT.block ?_
     refine AWT.rS ?_
     refine AWT.rLC ?_
     rw [chv2 v]
     refine OpsT.cs (awGuard.cK 1 [0,4] (h_WriteByte GA (bw wr 2) (dg acc v 2) (chF v 2) (by rw [dg_len]; omega)) ?_)
     refine OpsT.nil ?_
     simp only [andThen,unblock]
     refine AWT.rL ?_
     refine ⟨⟨3,by omega⟩,?_,by simp only []; omega⟩
     refine St.le.vw [0,1,2,3,5] (hpre:=(by decide : ∀ i,i < 4 → nth [0,1,2,3,5] i = some i))
    ·intro h; revert h; simp
   ·refine AWT.rS ?_
    refine AWT.seq ?_
    refine AWT.c2 ?_ ?_
    ·intro h; revert h; simp
    ·intro _
     refine AWT.exit ?_
     simp only [andThen,unblock,if_true]
     rw [hfin]
     refine ⟨none,rfl,⟨64,[],[(0,.tc 52 [bldP true 0,.row 4 0 (dg acc v 3).length]),(1,.cells [.sl (bytesAV s)]),(2,.cells [.int .i64 4]),(4,.brow 5 (dg acc v 3)),(3,.lp lq rb)],5,GA,4,[]⟩,?_,rfl,by simp only [go_sem,seval],rfl,rfl,rfl⟩
     refine St.le.vw [0,1,2,3,4] (hpre:=(by decide : ∀ i,i < 4 → nth [0,1,2,3,4] i = some i))
  ·refine hr [_] _ 5 _ rfl rfl ?_
   refine AWT.rL ?_
   refine ⟨rfl,rfl,?_⟩
   refine AWT.block ?_
   refine AWT.rS ?_
   refine AWT.rS ?_
   refine AWT.rSC ?_
   refine OpsT.cs (awGuard.slF ?_)
   refine OpsT.rn ?_
   refine OpsT.cs (awGuard.cpT (l:=[a,b,c]) (n:=4) (by simp) ?_)
   refine OpsT.nil ?_
   refine AWT.vw [0,1,2,3,4,5] [(3,.ptr 0 0),(5,.int .i64 3),(6,.ptr 5 0)] [(0,.tc 52 [bldP wr 0,.row 4 0 acc.length]),(1,.cells [.sl (bytesAV s)]),(2,.cells [.int .i64 4]),(3,.lp lq rb),(4,.brow 5 acc),(5,.tc 56 [.int .u8 a.toNat,.int .u8 b.toNat,.int .u8 c.toNat,.int .u8 0])] (hpre:=(by decide : ∀ i,i < 4 → nth [0,1,2,3,4,5] i = some i)) ?_ ?_
   ·exact rfl
   refine AWT.seq ?_
   refine AWT.rSC ?_
   refine OpsT.cs (awGuard.gN (.bool true) ?_)
   refine OpsT.cs (awGuard.gN (.bool true) ?_)
   refine OpsT.rn ?_
   refine OpsT.nil ?_
   refine AWT.c2 ?_ ?_
   ·intro h; revert h; simp
   intro _
   refine AWT.skip ?_
   change AWT _ _ _ _ _ _ _
   refine AWT.vw [0,1,2,3,4,5] [(3,.ptr 0 0),(5,.int .i64 3),(6,.ptr 5 0)] [(0,.tc 52 [bldP wr 0,.row 4 0 acc.length]),(1,.cells [.sl (bytesAV s)]),(2,.cells [.int .i64 4]),(3,.lp lq rb),(4,.brow 5 acc),(5,.tc 56 [.int .u8 a.toNat,.int .u8 b.toNat,.int .u8 c.toNat,.int .u8 0])] (hpre:=(by decide : ∀ i,i < 4 → nth [0,1,2,3,4,5] i = some i)) (q:=True) (hhp:=by intro _; (try dsimp only) <;> (try simp only [go_sem,seval])) trivial ?_
   refine AWT.rS ?_
   rw [wrapA a,wrapA b,wrapA c,grp_or3 a b c]
   have hv : grp4 a b c 0 < 4294967296:=grp_lt _ _ _ _
   have hfin : acc ++ fiveB [a,b,c] = dg acc (grp4 a b c 0) 4:=by simp [dg,fiveB]
   generalize hgv : grp4 a b c 0 = v at *
   refine AWT.rSC ?_
   refine OpsT.cs (awGuard.slC (n:=5) (h:=4) ⟨by decide,by decide⟩ ?_)
   refine OpsT.rn ?_
   refine OpsT.nil ?_
   refine AWT.block ?_
   refine AWT.vw [0,1,2,3,4] [(3,.ptr 0 0),(7,.int .u64 v),(48,.sl [[.int .u64 52200625],[.int .u64 614125],[.int .u64 7225],[.int .u64 85]]),(49,.int .i64 4),(50,.int .i64 0)] [(0,.tc 52 [bldP wr 0,.row 4 0 acc.length]),(1,.cells [.sl (bytesAV s)]),(2,.cells [.int .i64 4]),(3,.lp lq rb),(4,.brow 5 acc)] (hpre:=(by decide : ∀ i,i < 4 → nth [0,1,2,3,4] i = some i)) (q:=True) (hhp:=by intro _; (try dsimp only) <;> (try simp only [go_sem,seval])) trivial ?_
   refine AWT.lk (S:={ j : Nat // j ≤ 4 }) [3,7,48,49] (fun s_=>[(50,.int .i64 ((s_.1 : Nat) : Int))]) (fun s_=>[(0,.tc 52 [bldP (bw wr s_.1) 0,.row 4 0 (dg acc v s_.1).length]),(1,.cells [.sl (bytesAV s)]),(2,.cells [.int .i64 4]),(3,.lp lq rb),(4,.brow 5 (dg acc v s_.1))]) 5 (fun s_=>4 - s_.1) ⟨0,by decide⟩ ?_ ?_
   ·refine St.le.vw [0,1,2,3,4] (hpre:=(by decide : ∀ i,i < 4 → nth [0,1,2,3,4] i = some i)) 
   rintro ⟨j,hj⟩
   have hjc : j = 0 ∨ j = 1 ∨ j = 2 ∨ j = 3 ∨ j = 4:=by omega
   rcases hjc with rfl | rfl | rfl | rfl | rfl
   ·refine AWT.rS ?_
    refine AWT.seq ?_
    refine AWT.c2 ?_ ?_
    ·intro _
     refine AWT.skip ?_
     change AWT _ _ _ _ _ _ _
     refine AWT.seq ?_
     refine AWT.block ?_
     refine AWT.rS ?_
     refine AWT.rLC ?_
     rw [chv0 v]
     refine OpsT.cs (awGuard.cK 1 [0,4] (h_WriteByte GA (bw wr 0) (dg acc v 0) (chF v 0) (by rw [dg_len]; omega)) ?_)
     refine OpsT.nil ?_
     simp only [andThen,unblock]
     refine AWT.rL ?_
     refine ⟨⟨1,by omega⟩,?_,by simp only []; omega⟩
     refine St.le.vw [0,1,2,3,5] (hpre:=(by decide : ∀ i,i < 4 → nth [0,1,2,3,5] i = some i))
    ·intro h; revert h; simp
   ·refine AWT.rS ?_
    refine AWT.seq ?_
    refine AWT.c2 ?_ ?_
    ·intro _
     refine AWT.skip ?_
     change AWT _ _ _ _ _ _ _
     refine AWT.seq ?_
     refine AWT.block ?_
     refine AWT.rS ?_
     refine AWT.rLC ?_
     rw [chv1 v]
     refine OpsT.cs (awGuard.cK 1 [0,4] (h_WriteByte GA (bw wr 1) (dg acc v 1) (chF v 1) (by rw [dg_len]; omega)) ?_)
     refine OpsT.nil ?_
     simp only [andThen,unblock]
     refine AWT.rL ?_
     refine ⟨⟨2,by omega⟩,?_,by simp only []; omega⟩
     refine St.le.vw [0,1,2,3,5] (hpre:=(by decide : ∀ i,i < 4 → nth [0,1,2,3,5] i = some i))
    ·intro h; revert h; simp
   ·refine AWT.rS ?_
    refine AWT.seq ?_
    refine AWT.c2 ?_ ?_
    ·intro _
     refine AWT.skip ?_
     change AWT _ _ _ _ _ _ _
     refine AWT.seq ?_
     refine AWT.block ?_
     refine AWT.rS ?_
     refine AWT.rLC ?_
     rw [chv2 v]
     refine OpsT.cs (awGuard.cK 1 [0,4] (h_WriteByte GA (bw wr 2) (dg acc v 2) (chF v 2) (by rw [dg_len]; omega)) ?_)
     refine OpsT.nil ?_
     simp only [andThen,unblock]
     refine AWT.rL ?_
     refine ⟨⟨3,by omega⟩,?_,by simp only []; omega⟩
     refine St.le.vw [0,1,2,3,5] (hpre:=(by decide : ∀ i,i < 4 → nth [0,1,2,3,5] i = some i))
    ·intro h; revert h; simp
   ·refine AWT.rS ?_
    refine AWT.seq ?_
    refine AWT.c2 ?_ ?_
    ·intro _
     refine AWT.skip ?_
     change AWT _ _ _ _ _ _ _
     refine AWT.seq ?_
     refine AWT.block ?_
     refine AWT.rS ?_
     refine AWT.rLC ?_
     rw [chv3 v]
     refine OpsT.cs (awGuard.cK 1 [0,4] (h_WriteByte GA (bw wr 3) (dg acc v 3) (chF v 3) (by rw [dg_len]; omega)) ?_)
     refine OpsT.nil ?_
     simp only [andThen,unblock]
     refine AWT.rL ?_
     refine ⟨⟨4,by omega⟩,?_,by simp only []; omega⟩
     refine St.le.vw [0,1,2,3,5] (hpre:=(by decide : ∀ i,i < 4 → nth [0,1,2,3,5] i = some i))
    ·intro h; revert h; simp
   ·refine AWT.rS ?_
    refine AWT.seq ?_
    refine AWT.c2 ?_ ?_
    ·intro h; revert h; simp
    ·intro _
     refine AWT.exit ?_
     simp only [andThen,unblock,if_true]
     rw [hfin]
     refine ⟨none,rfl,⟨64,[],[(0,.tc 52 [bldP true 0,.row 4 0 (dg acc v 4).length]),(1,.cells [.sl (bytesAV s)]),(2,.cells [.int .i64 4]),(4,.brow 5 (dg acc v 4)),(3,.lp lq rb)],5,GA,4,[]⟩,?_,rfl,by simp only [go_sem,seval],rfl,rfl,rfl⟩
     refine St.le.vw [0,1,2,3,4] (hpre:=(by decide : ∀ i,i < 4 → nth [0,1,2,3,4] i = some i))
  ·refine hr [_] _ 5 _ rfl rfl ?_
   refine AWT.rL ?_
   refine ⟨rfl,rfl,?_⟩
   refine AWT.block ?_
   refine AWT.rS ?_
   refine AWT.rS ?_
   refine AWT.rSC ?_
   refine OpsT.cs (awGuard.slF ?_)
   refine OpsT.rn ?_
   refine OpsT.cs (awGuard.cpT (l:=[a,b,c,d]) (n:=4) (by simp) ?_)
   refine OpsT.nil ?_
   refine AWT.vw [0,1,2,3,4,5] [(3,.ptr 0 0),(5,.int .i64 4),(6,.ptr 5 0)] [(0,.tc 52 [bldP wr 0,.row 4 0 acc.length]),(1,.cells [.sl (bytesAV s)]),(2,.cells [.int .i64 4]),(3,.lp lq rb),(4,.brow 5 acc),(5,.tc 56 [.int .u8 a.toNat,.int .u8 b.toNat,.int .u8 c.toNat,.int .u8 d.toNat])] (hpre:=(by decide : ∀ i,i < 4 → nth [0,1,2,3,4,5] i = some i)) ?_ ?_
   ·exact rfl
   refine AWT.seq ?_
   refine AWT.rSC ?_
   refine OpsT.cs (awGuard.gT ?_)
   refine OpsT.cs (awGuard.eqG (eqs_four a b c d) ?_)
   refine OpsT.rn ?_
   refine OpsT.nil ?_
   refine AWT.c2 ?_ ?_
   ·intro h26
    have hz : grp4 a b c d = 0:=by simpa using h26
    have hfin : acc ++ fiveB [a,b,c,d] = acc ++ [122]:=by simp [fiveB,hz]
    rw [hfin]
    refine AWT.rSC ?_
    refine OpsT.cs (awGuard.cK 1 [0,4] (h_WriteByte GA wr acc 122 (by omega)) ?_)
    refine OpsT.nil ?_
    refine AWT.exit ?_
    simp only [andThen,unblock,if_true]
    refine ⟨none,rfl,⟨64,[],[(0,.tc 52 [bldP true 0,.row 4 0 (acc ++ [122]).length]),(1,.cells [.sl (bytesAV s)]),(2,.cells [.int .i64 4]),(4,.brow 5 (acc ++ [122])),(3,.lp lq rb)],5,GA,4,[]⟩,?_,rfl,by simp only [go_sem,seval],rfl,rfl,rfl⟩
    refine St.le.vw [0,1,2,3,6] (hpre:=(by decide : ∀ i,i < 4 → nth [0,1,2,3,6] i = some i))
   ·intro h26
    have hnz : ¬ grp4 a b c d = 0:=by simpa using h26
    refine AWT.skip ?_
    change AWT _ _ _ _ _ _ _
    refine AWT.vw [0,1,2,3,4,5] [(3,.ptr 0 0),(5,.int .i64 4),(6,.ptr 5 0)] [(0,.tc 52 [bldP wr 0,.row 4 0 acc.length]),(1,.cells [.sl (bytesAV s)]),(2,.cells [.int .i64 4]),(3,.lp lq rb),(4,.brow 5 acc),(5,.tc 56 [.int .u8 a.toNat,.int .u8 b.toNat,.int .u8 c.toNat,.int .u8 d.toNat])] (hpre:=(by decide : ∀ i,i < 4 → nth [0,1,2,3,4,5] i = some i)) (q:=True) (hhp:=by intro _; (try dsimp only) <;> (try simp only [go_sem,seval])) trivial ?_
    refine AWT.rS ?_
    rw [wrapA a,wrapA b,wrapA c,wrapA d,grp_or a b c d]
    have hv : grp4 a b c d < 4294967296:=grp_lt _ _ _ _
    have hfin : acc ++ fiveB [a,b,c,d] = dg acc (grp4 a b c d) 5:=by simp [dg,fiveB,hnz]
    generalize hgv : grp4 a b c d = v at *
    refine AWT.rSC ?_
    refine OpsT.cs (awGuard.slC (n:=5) (h:=5) ⟨by decide,by decide⟩ ?_)
    refine OpsT.rn ?_
    refine OpsT.nil ?_
    refine AWT.block ?_
    refine AWT.vw [0,1,2,3,4] [(3,.ptr 0 0),(7,.int .u64 v),(48,.sl [[.int .u64 52200625],[.int .u64 614125],[.int .u64 7225],[.int .u64 85],[.int .u64 1]]),(49,.int .i64 5),(50,.int .i64 0)] [(0,.tc 52 [bldP wr 0,.row 4 0 acc.length]),(1,.cells [.sl (bytesAV s)]),(2,.cells [.int .i64 4]),(3,.lp lq rb),(4,.brow 5 acc)] (hpre:=(by decide : ∀ i,i < 4 → nth [0,1,2,3,4] i = some i)) (q:=True) (hhp:=by intro _; (try dsimp only) <;> (try simp only [go_sem,seval])) trivial ?_
    refine AWT.lk (S:={ j : Nat // j ≤ 5 }) [3,7,48,49] (fun s_=>[(50,.int .i64 ((s_.1 : Nat) : Int))]) (fun s_=>[(0,.tc 52 [bldP (bw wr s_.1) 0,.row 4 0 (dg acc v s_.1).length]),(1,.cells [.sl (bytesAV s)]),(2,.cells [.int .i64 4]),(3,.lp lq rb),(4,.brow 5 (dg acc v s_.1))]) 5 (fun s_=>5 - s_.1) ⟨0,by decide⟩ ?_ ?_
    ·refine St.le.vw [0,1,2,3,4] (hpre:=(by decide : ∀ i,i < 4 → nth [0,1,2,3,4] i = some i)) 
    rintro ⟨j,hj⟩
    have hjc : j = 0 ∨ j = 1 ∨ j = 2 ∨ j = 3 ∨ j = 4 ∨ j = 5:=by omega
    rcases hjc with rfl | rfl | rfl | rfl | rfl | rfl
    ·refine AWT.rS ?_
     refine AWT.seq ?_
     refine AWT.c2 ?_ ?_
     ·intro _
      refine AWT.skip ?_
      change AWT _ _ _ _ _ _ _
      refine AWT.seq ?_
      refine AWT.block ?_
      refine AWT.rS ?_
      refine AWT.rLC ?_
      rw [chv0 v]
      refine OpsT.cs (awGuard.cK 1 [0,4] (h_WriteByte GA (bw wr 0) (dg acc v 0) (chF v 0) (by rw [dg_len]; omega)) ?_)
      refine OpsT.nil ?_
      simp only [andThen,unblock]
      refine AWT.rL ?_
      refine ⟨⟨1,by omega⟩,?_,by simp only []; omega⟩
      refine St.le.vw [0,1,2,3,5] (hpre:=(by decide : ∀ i,i < 4 → nth [0,1,2,3,5] i = some i))
     ·intro h; revert h; simp
    ·refine AWT.rS ?_
     refine AWT.seq ?_
     refine AWT.c2 ?_ ?_
     ·intro _
      refine AWT.skip ?_
      change AWT _ _ _ _ _ _ _
      refine AWT.seq ?_
      refine AWT.block ?_
      refine AWT.rS ?_
      refine AWT.rLC ?_
      rw [chv1 v]
      refine OpsT.cs (awGuard.cK 1 [0,4] (h_WriteByte GA (bw wr 1) (dg acc v 1) (chF v 1) (by rw [dg_len]; omega)) ?_)
      refine OpsT.nil ?_
      simp only [andThen,unblock]
      refine AWT.rL ?_
      refine ⟨⟨2,by omega⟩,?_,by simp only []; omega⟩
      refine St.le.vw [0,1,2,3,5] (hpre:=(by decide : ∀ i,i < 4 → nth [0,1,2,3,5] i = some i))
     ·intro h; revert h; simp
    ·refine AWT.rS ?_
     refine AWT.seq ?_
     refine AWT.c2 ?_ ?_
     ·intro _
      refine AWT.skip ?_
      change AWT _ _ _ _ _ _ _
      refine AWT.seq ?_
      refine AWT.block ?_
      refine AWT.rS ?_
      refine AWT.rLC ?_
      rw [chv2 v]
      refine OpsT.cs (awGuard.cK 1 [0,4] (h_WriteByte GA (bw wr 2) (dg acc v 2) (chF v 2) (by rw [dg_len]; omega)) ?_)
      refine OpsT.nil ?_
      simp only [andThen,unblock]
      refine AWT.rL ?_
      refine ⟨⟨3,by omega⟩,?_,by simp only []; omega⟩
      refine St.le.vw [0,1,2,3,5] (hpre:=(by decide : ∀ i,i < 4 → nth [0,1,2,3,5] i = some i))
     ·intro h; revert h; simp
    ·refine AWT.rS ?_
     refine AWT.seq ?_
     refine AWT.c2 ?_ ?_
     ·intro _
      refine AWT.skip ?_
      change AWT _ _ _ _ _ _ _
      refine AWT.seq ?_
      refine AWT.block ?_
      refine AWT.rS ?_
      refine AWT.rLC ?_
      rw [chv3 v]
      refine OpsT.cs (awGuard.cK 1 [0,4] (h_WriteByte GA (bw wr 3) (dg acc v 3) (chF v 3) (by rw [dg_len]; omega)) ?_)
      refine OpsT.nil ?_
      simp only [andThen,unblock]
      refine AWT.rL ?_
      refine ⟨⟨4,by omega⟩,?_,by simp only []; omega⟩
      refine St.le.vw [0,1,2,3,5] (hpre:=(by decide : ∀ i,i < 4 → nth [0,1,2,3,5] i = some i))
     ·intro h; revert h; simp
    ·refine AWT.rS ?_
     refine AWT.seq ?_
     refine AWT.c2 ?_ ?_
     ·intro _
      refine AWT.skip ?_
      change AWT _ _ _ _ _ _ _
      refine AWT.seq ?_
      refine AWT.block ?_
      refine AWT.rS ?_
      refine AWT.rLC ?_
      rw [chv4 v]
      refine OpsT.cs (awGuard.cK 1 [0,4] (h_WriteByte GA (bw wr 4) (dg acc v 4) (chF v 4) (by rw [dg_len]; omega)) ?_)
      refine OpsT.nil ?_
      simp only [andThen,unblock]
      refine AWT.rL ?_
      refine ⟨⟨5,by omega⟩,?_,by simp only []; omega⟩
      refine St.le.vw [0,1,2,3,5] (hpre:=(by decide : ∀ i,i < 4 → nth [0,1,2,3,5] i = some i))
     ·intro h; revert h; simp
    ·refine AWT.rS ?_
     refine AWT.seq ?_
     refine AWT.c2 ?_ ?_
     ·intro h; revert h; simp
     ·intro _
      refine AWT.exit ?_
      simp only [andThen,unblock,if_true]
      rw [hfin]
      refine ⟨none,rfl,⟨64,[],[(0,.tc 52 [bldP true 0,.row 4 0 (dg acc v 5).length]),(1,.cells [.sl (bytesAV s)]),(2,.cells [.int .i64 4]),(4,.brow 5 (dg acc v 5)),(3,.lp lq rb)],5,GA,4,[]⟩,?_,rfl,by simp only [go_sem,seval],rfl,rfl,rfl⟩
      refine St.le.vw [0,1,2,3,4] (hpre:=(by decide : ∀ i,i < 4 → nth [0,1,2,3,4] i = some i))
 ·rintro j hp' nx' ⟨rfl,⟨rl,lq,rfl⟩,rfl⟩
  refine ⟨by simp only [go_sem,seval],?_⟩
  have hfl:=fiveB_bound s
  show unblock 0 _ .normal _
  simp only [unblock,andThen]
  refine AWT.rSC ?_
  refine OpsT.cN [0,6] (FnT.ofH (h_Builder_String GA (bldP (decide (0 < chunksN s.length)) 0) (fiveB s) (by omega))) ?_
  refine OpsT.rn ?_
  refine OpsT.nil ?_
  refine AWT.rt ?_
  exact rfl
end Go.Proofs

namespace Go.Proofs
open Go Aw
set_option linter.unusedSimpArgs false
set_option linter.unusedVariables false
set_option maxRecDepth 100000
set_option maxHeartbeats 4000000
attribute [local go_sem] bB_take bytesAV_append List.length_append
theorem h_Unrun1 (gl : List (Nat × AV)) (s : List UInt8) (M : Nat) (hs : s.length ≤ 16777216) (hM : M ≤ 1048576) : FnK Tryd.prog (gl) 34 [.str s,.ptr 0 0] ([(0,.cells [.row 1 0 0,.int .i64 M]),(1,.row 1 [] true)]) 2 1 (fun r h n=>(((unrunS M s []).2 = .ok) ∧ r = .ret (.tup []) ∧ h = [(0,.cells [.row 1 0 (unrunS M s []).1.length,.int .i64 M]),(1,.row 1 (bytesAV (unrunS M s []).1) true)] ∧ n = 2) ∨ (¬ ((unrunS M s []).2 = .ok) ∧ r = .panic (.iface 70 (.agg [.int .i64 (errI (unrunS M s []).2)])) ∧ 1 ≤ n)):=by
 refine FnK.intro Tryd.func34 rfl rfl (by simp [Tryd.ntmps34]) ?_
 simp only [argEnv,Tryd.ntmps34,Tryd.results34]
 refine AW.block ?_
 refine AW.lk (S:={ p : List UInt8 × List UInt8 // p.1.length ≤ s.length ∧ p.2.length ≤ M ∧ unrunS M s [] = unrunS M p.1 p.2 }) [1] (fun s_=>[(0,.str s_.1.1)]) (fun s_=>[(0,.cells [.row 1 0 s_.1.2.length,.int .i64 M]),(1,.row 1 (bytesAV s_.1.2) true)]) 2 (fun s_=>s_.1.1.length) ⟨(s,[]),Nat.le_refl _,Nat.zero_le _,rfl⟩ ?_ ?_
 ·refine St.le.vw [0,1]
 rintro ⟨⟨t,out⟩,ht,hl,hsp⟩
 try dsimp only at ht
 try dsimp only at hl
 try dsimp only at hsp
 refine AW.block ?_
 refine AW.rSC ?_
 refine awOps.cons (awGuard.cM (c_ascii_need _ _ 4) ?_ ?_)
 ·intro hp5
  refine wk ?_
  have e:=hsp.trans (by rw [show t = [] from hp5,unrunS_nil] : unrunS M t out = ([],AErr.ending))
  rw [e]
  first | exact .inr ⟨by decide,rfl,by omega⟩ | (simp [errI]; done) | (simp [errI]; omega)
 intro hm5
 have h5 : t ≠ []:=hm5
 have htl : 0 < t.length:=List.length_pos_iff.2 h5
 have hcb:=u8_le (t.getD 0 0)
 have hdl : (t.drop 1).length = t.length - 1:=List.length_drop
 refine awOps.rn ?_
 refine AW.rS ?_
 refine AW.rS ?_
 refine AW.block ?_
 refine AW.rS ?_
 refine AW.c2 ?_ ?_
 ·intro h11
  refine AW.rt ?_
  have e:=hsp.trans (ur_stop h5 h11)
  rw [e]
  simp
 ·intro h11
  refine AW.rS ?_
  refine AW.c2 ?_ ?_
  ·intro h15
   refine AW.rSC ?_
   refine awOps.cons (awGuard.cM (c_ascii_need _ _ 4) ?_ ?_)
   ·intro hp17
    refine wk ?_
    have e:=hsp.trans ((ur_lit h5 h15).trans (if_pos (by omega)))
    rw [e]
    first | exact .inr ⟨by decide,rfl,by omega⟩ | (simp [errI]; done) | (simp [errI]; omega)
   intro hm17
   refine awOps.rn ?_
   refine AW.rSC ?_
   have htk : ((t.drop 1).take ((t.getD 0 0).toNat + 1)).length = (t.getD 0 0).toNat + 1:=by rw [List.length_take]; omega
   refine awOps.cons (awGuard.cKM 1 [0,1] (h_put_s _ out ((t.drop 1).take ((t.getD 0 0).toNat + 1)) M (by omega) (by simp; omega)) ?_ ?_)
   ·intro hp20 n20 hn20
    refine wk ?_
    have e:=hsp.trans ((ur_lit h5 h15).trans ((if_neg (by omega)).trans (if_neg (by omega))))
    rw [e]
    first | exact .inr ⟨by decide,rfl,by omega⟩ | (simp [errI]; done) | (simp [errI]; omega)
   intro hm20
   refine awOps.rn ?_
   refine AW.rL ?_
   refine ⟨⟨((t.drop 1).drop ((t.getD 0 0).toNat + 1),out ++ (t.drop 1).take ((t.getD 0 0).toNat + 1)),by show ((t.drop 1).drop _).length ≤ _; rw [List.length_drop]; omega,by show (out ++ _).length ≤ M; rw [List.length_append]; omega,hsp.trans ((ur_lit h5 h15).trans ((if_neg (by omega)).trans (if_pos (by omega))))⟩,?_,?_⟩
   ·refine St.le.vw [0,3]
   ·show ((t.drop 1).drop _).length < t.length; rw [List.length_drop]; omega
  ·intro h15
   refine AW.rSC ?_
   refine awOps.cons (awGuard.cM (c_ascii_need _ _ 4) ?_ ?_)
   ·intro hp25
    refine wk ?_
    have e:=hsp.trans (ur_rep0 h5 (by omega) hp25)
    rw [e]
    first | exact .inr ⟨by decide,rfl,by omega⟩ | (simp [errI]; done) | (simp [errI]; omega)
   intro hm25
   have h25 : t.drop 1 ≠ []:=hm25
   have htl2 : 0 < (t.drop 1).length:=List.length_pos_iff.2 h25
   refine awOps.rn ?_
   refine AW.rSC ?_
   rw [take_one h25,show (257 - (((t.getD 0 0).toNat : Nat) : Int)) = ((257 - (t.getD 0 0).toNat : Nat) : Int) by omega]
   refine awOps.cons (awGuard.c1 (c_strings_Repeat _ [(t.drop 1).getD 0 0] (257 - (t.getD 0 0).toNat) (by simp; omega) (by omega)) ?_)
   refine awOps.rn ?_
   rw [repeat_one]
   have hrl : (List.replicate (257 - (t.getD 0 0).toNat) ((t.drop 1).getD 0 0)).length = 257 - (t.getD 0 0).toNat:=List.length_replicate
   refine awOps.cons (awGuard.cKM 1 [0,1] (h_put_s _ out (List.replicate (257 - (t.getD 0 0).toNat) ((t.drop 1).getD 0 0)) M (by omega) (by simp; omega)) ?_ ?_)
   ·intro hp30 n30 hn30
    refine wk ?_
    have e:=hsp.trans ((ur_rep h5 (by omega) h25).trans (if_neg (by omega)))
    rw [e]
    first | exact .inr ⟨by decide,rfl,by omega⟩ | (simp [errI]; done) | (simp [errI]; omega)
   intro hm30
   refine awOps.rn ?_
   refine AW.rL ?_
   refine ⟨⟨((t.drop 1).drop 1,out ++ List.replicate (257 - (t.getD 0 0).toNat) ((t.drop 1).getD 0 0)),by show ((t.drop 1).drop _).length ≤ _; rw [List.length_drop]; omega,by show (out ++ _).length ≤ M; rw [List.length_append]; omega,hsp.trans ((ur_rep h5 (by omega) h25).trans (if_pos (by omega)))⟩,?_,?_⟩
   ·refine St.le.vw [0,3]
   ·show ((t.drop 1).drop _).length < t.length; rw [List.length_drop]; omega
theorem c_ascii_Unrun (gl : List (Nat × AV)) (s : List UInt8) (most : Int) (hs : s.length ≤ 16777216) : FnP Tryd.prog (gl) 12 [.str s,.int .i64 most] fun r=>r = .ret (.tup [.str (unrunD s most).1,.int .i64 (errI (unrunD s most).2)]):=by
 refine FnP.intro Tryd.func12 rfl rfl (by simp [Tryd.ntmps12]) ?_
 simp only [argEnv,Tryd.ntmps12,Tryd.results12]
 refine AW.rS ?_
 refine AW.rSC ?_
 refine awOps.cons (awGuard.c1 (c_ascii_unpacked _ s most _ (fun M=>unrunS M s []) (fun M hM=>h_Unrun1 _ s M hs hM) (fun M=>ur_fail M _ s [] (Nat.le_refl _))) ?_)
 refine awOps.rn ?_
 refine AW.rt ?_
 rfl
end Go.Proofs

namespace Aw
theorem grp_put {l : List Nat} {v : Nat} {x : Int} (hl : l.length ≤ 4) (hx : x = v) : splice (grpC l) (l.length * 1) [AV.int .u8 x] =
  [.int .u8 ((l ++ [v]).getD 0 0 : Nat),.int .u8 ((l ++ [v]).getD 1 0 : Nat),.int .u8 ((l ++ [v]).getD 2 0 : Nat),.int .u8 ((l ++ [v]).getD 3 0 : Nat),.int .u8 ((l ++ [v]).getD 4 0 : Nat),.int .i64 (l.length : Nat)]:=by
 subst hx
 match l,hl with
 | [],_=>rfl
 | [a],_=>rfl
 | [a,b],_=>rfl
 | [a,b,c],_=>rfl
 | [a,b,c,d],_=>rfl
 | _ :: _ :: _ :: _ :: _ :: _,hl=>exact absurd hl (by simp)
end Aw
namespace Go.Proofs
open Go Aw
set_option linter.unusedSimpArgs false
set_option linter.unusedVariables false
set_option maxRecDepth 100000
set_option maxHeartbeats 4000000
attribute [local irreducible] val5 unfiveS
attribute [local go_sem] bB_take bytesAV_append List.length_append GA
theorem h_Unfive1 (s : List UInt8) (M : Nat) (hs : s.length ≤ 16777216) (hM : M ≤ 1048576) : FnK Tryd.prog (GA) 28 [.str s,.ptr 0 0] ([(0,.cells [.row 1 0 0,.int .i64 M]),(1,.row 1 [] true)]) 2 1 (fun r h n=>(((unfiveS M s [] []).2 = .ok) ∧ r = .ret (.tup []) ∧ h = [(0,.cells [.row 1 0 (unfiveS M s [] []).1.length,.int .i64 M]),(1,.row 1 (bytesAV (unfiveS M s [] []).1) true)] ∧ n = 2) ∨ (¬ ((unfiveS M s [] []).2 = .ok) ∧ r = .panic (.iface 70 (.agg [.int .i64 (errI (unfiveS M s [] []).2)])) ∧ 1 ≤ n)):=by
 refine FnK.intro Tryd.func28 rfl rfl (by simp [Tryd.ntmps28]) ?_
 simp only [argEnv,Tryd.ntmps28,Tryd.results28]
 refine AW.rS ?_
 refine AW.trim [0,1,4] ?_
 refine AW.seq ?_
 refine AW.rS ?_
 refine AW.trim [0,1,4,8,9] ?_
 refine AW.block ?_
 refine AW.lk (S:={ p : Nat × List Nat × List UInt8 // p.1 ≤ s.length ∧ p.2.1.length ≤ 4 ∧ (∀ x ∈ p.2.1,x ≤ 84) ∧ p.2.2.length ≤ M ∧ unfiveS M s [] [] = unfiveS M (s.drop p.1) p.2.1 p.2.2 }) [0,1,4,8] (fun s_=>[(9,.int .i64 s_.1.1)]) (fun s_=>[(0,.cells [.row 1 0 s_.1.2.2.length,.int .i64 M]),(1,.row 1 (bytesAV s_.1.2.2) true),(2,.tc 41 (grpC s_.1.2.1))]) 3 (fun s_=>s.length - s_.1.1) ⟨(0,[],[]),Nat.zero_le _,(by simp),(fun x hx=>(by cases hx)),Nat.zero_le _,rfl⟩ ?_ ?_
 ·refine St.le.vw [0,1,2]
 rintro ⟨⟨i,l,out⟩,hi,hl4,hx,hl,hsp⟩
 try dsimp only at hi
 try dsimp only at hl4
 try dsimp only at hx
 try dsimp only at hl
 try dsimp only at hsp
 refine AW.rS ?_
 refine AW.trim [0,1,4,8,9,10] ?_
 refine AW.seq ?_
 refine AW.c2 ?_ ?_
 ·intro h8
  have hcb:=u8_le (s.getD i 0)
  refine AW.skip ?_
  refine AW.seq ?_
  refine AW.block ?_
  refine AW.rS ?_
  refine AW.trim [0,1,4,5,8,9] ?_
  refine AW.rS ?_
  refine AW.trim [0,1,4,5,6,8,9] ?_
  refine AW.block ?_
  refine AW.rSC ?_
  refine awOps.cons (awGuard.c1 (c_octet_White _ (s.getD i 0)) ?_)
  refine awOps.rn ?_
  refine AW.trim [0,1,4,5,6,8,9,16] ?_
  refine AW.c2 ?_ ?_
  ·intro h18
   refine AW.skip ?_
   refine AW.rL ?_
   refine ⟨⟨(i + 1,l,out),h8,hl4,hx,hl,hsp.trans (vx_white h8 h18)⟩,?_,?_⟩
   ·refine St.le.vw [0,1,2]
   ·simp only []; omega
  ·intro h18
   refine AW.rS ?_
   refine AW.trim [0,1,4,5,6,8,9,19] ?_
   refine AW.c2 ?_ ?_
   ·intro h23
    have hl0 : l = []:=List.length_eq_zero_iff.1 (by omega)
    subst hl0
    refine AW.rLC ?_
    rw [show [[AV.int .u8 0],[AV.int .u8 0],[AV.int .u8 0],[AV.int .u8 0]] = bytesAV [0,0,0,0] from rfl]
    refine awOps.cons (awGuard.cKM 1 [0,1,3] (h_put_r _ out [0,0,0,0] M (by omega) (by simp)) ?_ ?_)
    ·intro hp25 n25 hn25
     refine wk ?_
     have e:=hsp.trans ((vx_z h8 h18 h23.1 rfl).trans (if_neg (by have : ¬ out.length + 4 ≤ M:=hp25; omega)))
     rw [e]
     first | exact .inr ⟨by decide,rfl,by omega⟩ | (simp [errI]; done) | (simp [errI]; omega)
    intro hm25
    refine awOps.rn ?_
    refine AW.rL ?_
    refine ⟨⟨(i + 1,[],out ++ [0,0,0,0]),h8,(by simp),(fun x hx=>(by cases hx)),(by show (out ++ [0,0,0,0]).length ≤ M; rw [List.length_append]; exact hm25),hsp.trans ((vx_z h8 h18 h23.1 rfl).trans (if_pos (by have : out.length + 4 ≤ M:=hm25; omega)))⟩,?_,?_⟩
    ·refine St.le.vw [0,4,2]
    ·simp only []; omega
   ·intro h23
    refine AW.rS ?_
    refine AW.trim [0,1,4,5,6,8,9,30] ?_
    refine AW.c2 ?_ ?_
    ·intro h30
     refine AW.rS ?_
     refine AW.trim [0,1,4,8,9] ?_
     rw [grp_put (l:=l) (v:=(s.getD i 0).toNat - 33) hl4 (by omega)]
     refine AW.rS ?_
     refine AW.trim [0,1,4,8,9] ?_
     rw [show ((l.length : Int) + 1) = (((l ++ [(s.getD i 0).toNat - 33]).length : Nat) : Int) by simp]
     have hlv : (l ++ [(s.getD i 0).toNat - 33]).length = l.length + 1:=by simp
     have hl1 : [(s.getD i 0).toNat - 33].length = 1:=rfl
     refine AW.rS ?_
     refine AW.trim [0,1,4,8,9,49] ?_
     refine AW.c2 ?_ ?_
     ·intro h34
      refine AW.rLC ?_
      refine awOps.cons (awGuard.cKM 2 [2,0,1] (h_gput (l ++ [(s.getD i 0).toNat - 33]) (by rw [List.length_append]; simp; omega) (dig_all hx (by omega)) out M (by omega)) ?_ ?_)
      ·intro hp36 n36 hn36
       refine wk ?_
       have e:=hsp.trans (vx_five (out:=out) (M:=M) h8 h18 h30.1 h30.2 (by omega))
       rw [e,if_neg hp36]
       rcases putE_cases out (l ++ [(s.getD i 0).toNat - 33]) M with q | q | q
       ·exact absurd q hp36
       ·rw [if_pos q,q]
        first | exact .inr ⟨by decide,rfl,by omega⟩ | (simp [errI]; done) | (simp [errI]; omega)
       ·rw [if_neg (by rw [q]; decide),q]
        first | exact .inr ⟨by decide,rfl,by omega⟩ | (simp [errI]; done) | (simp [errI]; omega)
      intro hm36
      refine awOps.rn ?_
      refine AW.rL ?_
      refine ⟨⟨(i + 1,[],putO out (l ++ [(s.getD i 0).toNat - 33])),h8,(by simp),(fun x hx=>(by cases hx)),putO_len hm36 (by rw [List.length_append]; simp; omega),hsp.trans ((vx_five (out:=out) (M:=M) h8 h18 h30.1 h30.2 (by omega)).trans (if_pos hm36))⟩,?_,?_⟩
      ·refine St.le.vw [0,3,2]
      ·simp only []; omega
     ·intro h34
      refine AW.skip ?_
      refine AW.rL ?_
      refine ⟨⟨(i + 1,l ++ [(s.getD i 0).toNat - 33],out),h8,by show (l ++ _).length ≤ 4; rw [List.length_append]; simp; omega,dig_all hx (by omega),hl,hsp.trans (vx_more h8 h18 h30.1 h30.2 (by omega))⟩,?_,?_⟩
      ·refine St.le.vw [0,1,2]
      ·simp only []; omega
    ·intro h30
     refine AW.rS ?_
     refine AW.trim [0,1,4,5,8,9,52] ?_
     refine AW.c2 ?_ ?_
     ·intro h44
      refine AW.rSC ?_
      refine awOps.cons (awGuard.cKM 2 [2,0,1] (h_end (s.drop (i + 1)) l hl4 hx out M (by omega) (by simp; omega)) ?_ ?_)
      ·intro hp46 n46 hn46
       refine wk ?_
       have e:=hsp.trans (vx_end (out:=out) (l:=l) (M:=M) h8 h44)
       rw [e]
       exact .inr ⟨hp46,rfl,by omega⟩
      intro hm46
      refine awOps.rn ?_
      refine AW.trim [] ?_
      refine AW.vw [0,3] [] [(0,.cells [.row 1 0 (endR M (s.drop (i + 1)) l out).1.length,.int .i64 M]),(1,.row 1 (bytesAV (endR M (s.drop (i + 1)) l out).1) true)] ?_
      refine AW.rt ?_
      rw [hsp.trans (vx_end (out:=out) (l:=l) (M:=M) h8 h44)]
      first | exact .inl ⟨hm46,rfl,rfl,rfl⟩ | (simp [hm46]; done)
     ·intro h44
      refine AW.rLC ?_
      refine awOps.cons (awGuard.cM (c_ascii_need _ false 3) ?_ ?_)
      ·intro hp51
       refine wk ?_
       have e:=hsp.trans (vx_form h8 h18 (fun q=>h23.elim (fun h=>h q.1) (fun h=>h (by rw [q.2]; rfl))) (by omega) h44)
       rw [e]
       first | exact .inr ⟨by decide,rfl,by omega⟩ | (simp [errI]; done) | (simp [errI]; omega)
      intro hm51
      refine awOps.rn ?_
      refine AW.rL ?_
      exact absurd hm51 (by simp)
 ·intro h8
  refine AW.exit ?_
  refine AW.rLC ?_
  refine awOps.cons (awGuard.cM (c_ascii_need _ false 4) ?_ ?_)
  ·intro hp57
   refine wk ?_
   have e:=hsp.trans (vx_done h8)
   rw [e]
   first | exact .inr ⟨by decide,rfl,by omega⟩ | (simp [errI]; done) | (simp [errI]; omega)
  intro hm57
  refine awOps.rn ?_
  refine wk ?_
  exact absurd hm57 (by simp)
theorem c_ascii_Unfive (s : List UInt8) (most : Int) (hs : s.length ≤ 16777216) : FnP Tryd.prog (GA) 10 [.str s,.int .i64 most] fun r=>r = .ret (.tup [.str (unfiveD s most).1,.int .i64 (errI (unfiveD s most).2)]):=by
 refine FnP.intro Tryd.func10 rfl rfl (by simp [Tryd.ntmps10]) ?_
 simp only [argEnv,Tryd.ntmps10,Tryd.results10]
 refine AW.rS ?_
 refine AW.rSC ?_
 refine awOps.cons (awGuard.c1 (c_ascii_unpacked _ s most _ (fun M=>unfiveS M s [] []) (fun M hM=>h_Unfive1 s M hs hM) (fun M=>vx_fail M s [] [])) ?_)
 refine awOps.rn ?_
 refine AW.rt ?_
 rfl
end Go.Proofs

namespace Aw
open Go
theorem lv1 : unhexD [54,32,49,32,55,62,120] 2 = ([97,112],.ok):=by decide +kernel
theorem lv2 : unhexD [54,32,49,32,55,62] 1 = ([],.long):=by decide +kernel
theorem lv3 : unhexD [54,49] 9 = ([],.ending):=by decide +kernel
theorem lv4 : unhexD [54,103,62] 9 = ([],.form):=by decide +kernel
theorem lv5 : unfiveD [64,47,126,62] 1 = ([97],.ok):=by decide +kernel
theorem lv6 : unfiveD [32,122,32,126,62] 4 = ([0,0,0,0],.ok):=by decide +kernel
theorem lv7 : unfiveD [64,122,126,62] 9 = ([],.form):=by decide +kernel
theorem lv8 : unfiveD [64,126,62] 9 = ([],.form):=by decide +kernel
theorem lv9 : unfiveD [64,47,126] 9 = ([],.ending):=by decide +kernel
theorem lv10 : unfiveD [117,117,117,117,117,126,62] 9 = ([],.form):=by decide +kernel
theorem lv11 : unfiveD [122,126,62] 3 = ([],.long):=by decide +kernel
theorem lv12 : unrunD [254,97,0,98,128,120] 4 = ([97,97,97,98],.ok):=by decide +kernel
theorem lv13 : unrunD [254,97] 9 = ([],.ending):=by decide +kernel
theorem lv14 : unrunD [254,97,128] 2 = ([],.long):=by decide +kernel
theorem lv15 : unrunD [1,97,128] 2 = ([],.ending):=by decide +kernel
theorem lv16 : unrunD [128] (-1) = ([],.arg):=by decide +kernel
theorem lv17 : hexE [97,98] = [54,49,54,50,62]:=by decide +kernel
theorem lv18 : fiveE [0,0,0,0] = [122,126,62]:=by decide +kernel
theorem lv19 : fiveE [97] = [64,47,126,62]:=by decide +kernel
theorem lv20 : fiveE [] = [126,62]:=by decide +kernel
theorem lv21 : runE [97,97,97,98] = [254,97,0,98,128]:=by decide +kernel
theorem lv22 : runE [97,97,98] = [2,97,97,98,128]:=by decide +kernel
theorem lv23 : runE [] = [128]:=by decide +kernel
end Aw

namespace Go.Proofs
open Go Aw
set_option linter.unusedSimpArgs false
set_option linter.unusedVariables false
set_option maxRecDepth 100000
set_option maxHeartbeats 4000000
theorem lc1 : FnP Tryd.prog GA 8 [.str [54,32,49,32,55,62,120],.int .i64 2] fun r=>r = .ret (.tup [.str [97,112],.int .i64 0]):=by
 have h:=c_ascii_Unhex GA [54,32,49,32,55,62,120] 2 (by decide)
 rw [lv1] at h
 exact h
theorem lc2 : FnP Tryd.prog GA 8 [.str [54,32,49,32,55,62],.int .i64 1] fun r=>r = .ret (.tup [.str [],.int .i64 5]):=by
 have h:=c_ascii_Unhex GA [54,32,49,32,55,62] 1 (by decide)
 rw [lv2] at h
 exact h
theorem lc3 : FnP Tryd.prog GA 8 [.str [54,49],.int .i64 9] fun r=>r = .ret (.tup [.str [],.int .i64 4]):=by
 have h:=c_ascii_Unhex GA [54,49] 9 (by decide)
 rw [lv3] at h
 exact h
theorem lc4 : FnP Tryd.prog GA 8 [.str [54,103,62],.int .i64 9] fun r=>r = .ret (.tup [.str [],.int .i64 3]):=by
 have h:=c_ascii_Unhex GA [54,103,62] 9 (by decide)
 rw [lv4] at h
 exact h
theorem lc5 : FnP Tryd.prog GA 10 [.str [64,47,126,62],.int .i64 1] fun r=>r = .ret (.tup [.str [97],.int .i64 0]):=by
 have h:=c_ascii_Unfive [64,47,126,62] 1 (by decide)
 rw [lv5] at h
 exact h
theorem lc6 : FnP Tryd.prog GA 10 [.str [32,122,32,126,62],.int .i64 4] fun r=>r = .ret (.tup [.str [0,0,0,0],.int .i64 0]):=by
 have h:=c_ascii_Unfive [32,122,32,126,62] 4 (by decide)
 rw [lv6] at h
 exact h
theorem lc7 : FnP Tryd.prog GA 10 [.str [64,122,126,62],.int .i64 9] fun r=>r = .ret (.tup [.str [],.int .i64 3]):=by
 have h:=c_ascii_Unfive [64,122,126,62] 9 (by decide)
 rw [lv7] at h
 exact h
theorem lc8 : FnP Tryd.prog GA 10 [.str [64,126,62],.int .i64 9] fun r=>r = .ret (.tup [.str [],.int .i64 3]):=by
 have h:=c_ascii_Unfive [64,126,62] 9 (by decide)
 rw [lv8] at h
 exact h
theorem lc9 : FnP Tryd.prog GA 10 [.str [64,47,126],.int .i64 9] fun r=>r = .ret (.tup [.str [],.int .i64 4]):=by
 have h:=c_ascii_Unfive [64,47,126] 9 (by decide)
 rw [lv9] at h
 exact h
theorem lc10 : FnP Tryd.prog GA 10 [.str [117,117,117,117,117,126,62],.int .i64 9] fun r=>r = .ret (.tup [.str [],.int .i64 3]):=by
 have h:=c_ascii_Unfive [117,117,117,117,117,126,62] 9 (by decide)
 rw [lv10] at h
 exact h
theorem lc11 : FnP Tryd.prog GA 10 [.str [122,126,62],.int .i64 3] fun r=>r = .ret (.tup [.str [],.int .i64 5]):=by
 have h:=c_ascii_Unfive [122,126,62] 3 (by decide)
 rw [lv11] at h
 exact h
theorem lc12 : FnP Tryd.prog GA 12 [.str [254,97,0,98,128,120],.int .i64 4] fun r=>r = .ret (.tup [.str [97,97,97,98],.int .i64 0]):=by
 have h:=c_ascii_Unrun GA [254,97,0,98,128,120] 4 (by decide)
 rw [lv12] at h
 exact h
theorem lc13 : FnP Tryd.prog GA 12 [.str [254,97],.int .i64 9] fun r=>r = .ret (.tup [.str [],.int .i64 4]):=by
 have h:=c_ascii_Unrun GA [254,97] 9 (by decide)
 rw [lv13] at h
 exact h
theorem lc14 : FnP Tryd.prog GA 12 [.str [254,97,128],.int .i64 2] fun r=>r = .ret (.tup [.str [],.int .i64 5]):=by
 have h:=c_ascii_Unrun GA [254,97,128] 2 (by decide)
 rw [lv14] at h
 exact h
theorem lc15 : FnP Tryd.prog GA 12 [.str [1,97,128],.int .i64 2] fun r=>r = .ret (.tup [.str [],.int .i64 4]):=by
 have h:=c_ascii_Unrun GA [1,97,128] 2 (by decide)
 rw [lv15] at h
 exact h
theorem lc16 : FnP Tryd.prog GA 12 [.str [128],.int .i64 (-1)] fun r=>r = .ret (.tup [.str [],.int .i64 1]):=by
 have h:=c_ascii_Unrun GA [128] (-1) (by decide)
 rw [lv16] at h
 exact h
theorem lc17 : FnP Tryd.prog GA 14 [.str [97,98]] fun r=>r = .ret (.str [54,49,54,50,62]):=by
 have h:=c_ascii_Hex GA [97,98] (by decide)
 rw [lv17] at h
 exact h
theorem lc18 : FnP Tryd.prog GA 16 [.str [0,0,0,0]] fun r=>r = .ret (.str [122,126,62]):=by
 have h:=c_ascii_Five [0,0,0,0] (by decide)
 rw [lv18] at h
 exact h
theorem lc19 : FnP Tryd.prog GA 16 [.str [97]] fun r=>r = .ret (.str [64,47,126,62]):=by
 have h:=c_ascii_Five [97] (by decide)
 rw [lv19] at h
 exact h
theorem lc20 : FnP Tryd.prog GA 16 [.str []] fun r=>r = .ret (.str [126,62]):=by
 have h:=c_ascii_Five [] (by decide)
 rw [lv20] at h
 exact h
theorem lc21 : FnP Tryd.prog GA 18 [.str [97,97,97,98]] fun r=>r = .ret (.str [254,97,0,98,128]):=by
 have h:=c_ascii_Run GA [97,97,97,98] (by decide)
 rw [lv21] at h
 exact h
theorem lc22 : FnP Tryd.prog GA 18 [.str [97,97,98]] fun r=>r = .ret (.str [2,97,97,98,128]):=by
 have h:=c_ascii_Run GA [97,97,98] (by decide)
 rw [lv22] at h
 exact h
theorem lc23 : FnP Tryd.prog GA 18 [.str []] fun r=>r = .ret (.str [128]):=by
 have h:=c_ascii_Run GA [] (by decide)
 rw [lv23] at h
 exact h
theorem c_foliantlaw14_lives  : FnP Tryd.prog (GA) 7 [] fun r=>r = .ret (.bool true):=by
 refine FnP.intro Tryd.func7 rfl rfl (by simp [Tryd.ntmps7]) ?_
 simp only [argEnv,Tryd.ntmps7,Tryd.results7]
 refine AW.rS ?_
 refine AW.rSC ?_
 refine awOps.cons (awGuard.c1 (lc1) ?_)
 refine awOps.rn ?_
 refine AW.rSC ?_
 refine awOps.cons (awGuard.c1 (lc2) ?_)
 refine awOps.rn ?_
 refine AW.rSC ?_
 refine awOps.cons (awGuard.c1 (lc3) ?_)
 refine awOps.rn ?_
 refine AW.rSC ?_
 refine awOps.cons (awGuard.c1 (lc4) ?_)
 refine awOps.rn ?_
 refine AW.rSC ?_
 refine awOps.cons (awGuard.c1 (lc5) ?_)
 refine awOps.rn ?_
 refine AW.rSC ?_
 refine awOps.cons (awGuard.c1 (lc6) ?_)
 refine awOps.rn ?_
 refine AW.rSC ?_
 refine awOps.cons (awGuard.c1 (lc7) ?_)
 refine awOps.rn ?_
 refine AW.rSC ?_
 refine awOps.cons (awGuard.c1 (lc8) ?_)
 refine awOps.rn ?_
 refine AW.rSC ?_
 refine awOps.cons (awGuard.c1 (lc9) ?_)
 refine awOps.rn ?_
 refine AW.rSC ?_
 refine awOps.cons (awGuard.c1 (lc10) ?_)
 refine awOps.rn ?_
 refine AW.rSC ?_
 refine awOps.cons (awGuard.c1 (lc11) ?_)
 refine awOps.rn ?_
 refine AW.rSC ?_
 refine awOps.cons (awGuard.c1 (lc12) ?_)
 refine awOps.rn ?_
 refine AW.rSC ?_
 refine awOps.cons (awGuard.c1 (lc13) ?_)
 refine awOps.rn ?_
 refine AW.rSC ?_
 refine awOps.cons (awGuard.c1 (lc14) ?_)
 refine awOps.rn ?_
 refine AW.rSC ?_
 refine awOps.cons (awGuard.c1 (lc15) ?_)
 refine awOps.rn ?_
 refine AW.rSC ?_
 refine awOps.cons (awGuard.c1 (lc16) ?_)
 refine awOps.rn ?_
 refine AW.seq ?_
 refine AW.rSC ?_
 refine awOps.cons (awGuard.c1 (lc17) ?_)
 refine awOps.rn ?_
 refine awOps.cons (awGuard.cG (fun hg=>lc18) ?_)
 refine awOps.rn ?_
 refine awOps.cons (awGuard.cG (fun hg=>lc19) ?_)
 refine awOps.rn ?_
 refine awOps.cons (awGuard.cG (fun hg=>lc20) ?_)
 refine awOps.rn ?_
 refine AW.c2 ?_ ?_
 ·intro h60
  refine AW.rS ?_
  refine AW.rt ?_
  all_goals first | contradiction | rfl | (simp; done) | (simp; omega)
 ·intro h60
  refine AW.skip ?_
  refine AW.rSC ?_
  refine awOps.cons (awGuard.cG (fun hg=>lc21) ?_)
  refine awOps.rn ?_
  refine awOps.cons (awGuard.cG (fun hg=>lc22) ?_)
  refine awOps.rn ?_
  refine awOps.cons (awGuard.cG (fun hg=>lc23) ?_)
  refine awOps.rn ?_
  refine AW.rt ?_
  all_goals first | contradiction | rfl | (simp; done) | (simp; omega)
end Go.Proofs

namespace Aw
open Go
theorem sm_nat {s : Byt} (h0 : 0 < s.length) (h : s.length ≤ 1048576) : (min ((s.length : Int) - 1).toNat 1048576) = s.length - 1:=by omega
theorem sm_hex (s : Byt) (h0 : 0 < s.length) (h : s.length ≤ 1048576) : unhexD (hexE s) ((s.length : Int) - 1) = ([],.long):=by
 unfold unhexD hexE
 rw [if_neg (by omega),sm_nat h0 h,unhex_small _ [62] s [] (by simp) (by simp; omega)]
theorem sm_five (s : Byt) (h0 : 0 < s.length) : unfiveD (fiveE s) ((s.length : Int) - 1) = ([],.long):=by
 rw [show ((s.length : Int) - 1) = ((s.length - 1 : Nat) : Int) by omega]
 exact unfive_small s _ (by omega)
theorem sm_run (s : Byt) (h0 : 0 < s.length) (h : s.length ≤ 1048576) : unrunD (runE s) ((s.length : Int) - 1) = ([],.long):=by
 unfold unrunD runE
 rw [if_neg (by omega),sm_nat h0 h,unrun_small _ [128] s.length s [] (Nat.le_refl _) (by simp) (by simp; omega)]
theorem take_hex (s : Byt) : (hexE s).take ((hexE s).length - 1) = hexB s:=by
 unfold hexE
 rw [List.length_append]
 simp
theorem take_run (s : Byt) : (runE s).take ((runE s).length - 1) = runB s:=by
 unfold runE
 rw [List.length_append]
 simp
theorem take_five1 (s : Byt) : (fiveE s).take ((fiveE s).length - 1) = fiveB s ++ [126]:=by
 unfold fiveE
 rw [List.length_append,show ([126,62] : Byt) = [126] ++ [62] from rfl,← List.append_assoc]
 have : (fiveB s).length + ([126] ++ [62] : Byt).length - 1 = (fiveB s ++ [126]).length:=by simp
 rw [this,List.take_left]
theorem take_five2 (s : Byt) : (fiveE s).take ((fiveE s).length - 2) = fiveB s:=by
 unfold fiveE
 rw [List.length_append]
 simp
theorem hexE_len (s : Byt) : (hexE s).length = 2 * s.length + 1:=by simp [hexE,hexB_len]
theorem fiveE_two (s : Byt) : 2 ≤ (fiveE s).length:=by simp [fiveE]
theorem runE_one (s : Byt) : 1 ≤ (runE s).length:=by simp [runE]
end Aw

namespace Go.Proofs
open Go Aw
set_option linter.unusedSimpArgs false
set_option linter.unusedVariables false
set_option maxRecDepth 100000
set_option maxHeartbeats 4000000
attribute [local go_sem] bB_take bytesOf_bytesAV
def fillB (c : UInt8) (k n : Nat) : List (List AV):=List.replicate k [AV.int .u8 (c.toNat : Int)] ++ List.replicate (n - k) [AV.int .u8 0]
theorem fill_0 (c : UInt8) (n : Nat) : List.replicate n [AV.int .u8 0] = fillB c 0 n:=by simp [fillB]
theorem fill_len (c : UInt8) (k n : Nat) (h : k ≤ n) : (fillB c k n).length = n:=by simp [fillB]; omega
theorem fill_set (c : UInt8) (k n : Nat) (h : k < n) : (fillB c k n).set k [AV.int .u8 (c.toNat : Int)] = fillB c (k + 1) n:=by
 obtain ⟨m,hm⟩ : ∃ m,n - k = m + 1:=⟨n - k - 1,by omega⟩
 have e : n - (k + 1) = m:=by omega
 unfold fillB
 rw [hm,e,List.set_append_right _ _ (by simp),List.length_replicate,Nat.sub_self,List.replicate_succ,List.set_cons_zero,List.replicate_succ',List.append_assoc]
 rfl
theorem fill_all (c : UInt8) (n : Nat) : fillB c n n = bytesAV (List.replicate n c):=by simp [fillB,bytesAV]
theorem c_law_AsciiShort (s : List UInt8) (c : UInt8) (many : Int) : FnP Tryd.prog (GA) 6 [.str s,.int .u8 c.toNat,.int .i64 many] fun r=>r = .ret (.bool true):=by
 refine FnP.intro Tryd.func6 rfl rfl (by simp [Tryd.ntmps6]) ?_
 simp only [argEnv,Tryd.ntmps6,Tryd.results6]
 have hhl:=hexE_len s
 have hfl:=fiveE_len s
 have hrl:=runE_len s
 refine AW.rS ?_
 refine AW.seq ?_
 refine AW.rSC ?_
 refine awOps.cons (awGuard.c1 (c_foliantlaw14_lives) ?_)
 refine awOps.rn ?_
 refine AW.c2 ?_ ?_
 ·intro h6
  refine AW.rS ?_
  refine AW.rt ?_
  all_goals first | contradiction | rfl | (simp; done) | (simp; omega)
 ·intro h6
  refine AW.skip ?_
  refine AW.seq ?_
  refine AW.rS ?_
  refine AW.c2 ?_ ?_
  ·intro h13
   refine AW.rS ?_
   refine AW.rt ?_
   all_goals first | contradiction | rfl | (simp; done) | (simp; omega)
  ·intro h13
   refine AW.skip ?_
   refine AW.rS ?_
   refine AW.seq ?_
   refine AW.rSC ?_
   refine awOps.cons (awGuard.c1 (c_ascii_Hex _ s) ?_)
   refine awOps.rn ?_
   refine awOps.cons (awGuard.cG (fun hg=>c_ascii_Five s (by omega)) ?_)
   refine awOps.rn ?_
   refine awOps.cons (awGuard.cG (fun hg=>c_ascii_Run _ s (by omega)) ?_)
   refine awOps.rn ?_
   refine AW.c2 ?_ ?_
   ·intro h27
    refine AW.rS ?_
    refine AW.rt ?_
    all_goals first | contradiction | rfl | (simp; done) | (simp; omega)
   ·intro h27
    refine AW.skip ?_
    refine AW.rS ?_
    refine AW.seq ?_
    refine AW.rS ?_
    refine AW.block ?_
    rw [fill_0 c many.toNat]
    refine AW.lk (S:={ k : Nat // k ≤ many.toNat }) [1,2,8,58] (fun s_=>[(59,.int .i64 s_.1)]) (fun s_=>[(0,.row 1 (fillB c s_.1 many.toNat) true)]) 1 (fun s_=>many.toNat - s_.1) ⟨0,Nat.zero_le _⟩ ?_ ?_
    ·refine St.le.vw [0]
    rintro ⟨k,hk⟩
    try dsimp only at hk
    have hfk:=fill_len c k many.toNat hk
    refine AW.rS ?_
    refine AW.seq ?_
    refine AW.c2 ?_ ?_
    ·intro h39
     refine AW.skip ?_
     refine AW.seq ?_
     refine AW.block ?_
     refine AW.rS ?_
     refine AW.rL ?_
     refine AW.rL ?_
     refine ⟨⟨k + 1,by omega⟩,?_,?_⟩
     ·rw [fill_set c k _ h39]; refine St.le.vw [0]
     ·simp; omega
    ·intro h39
     refine AW.exit ?_
     have hkm : k = many.toNat:=by omega
     subst hkm
     rw [fill_all]
     have hss:=same_short many.toNat c
     have hll : (List.replicate many.toNat c).length = many.toNat:=List.length_replicate
     generalize hLe : List.replicate many.toNat c = L at *
     refine AW.vw [0] [(2,.int .i64 many),(8,.row 0 0 L.length)] [(0,.row 1 (bytesAV L) true)] ?_
     refine AW.rSC ?_
     refine awOps.cons (awGuard.c1 (c_ascii_Run _ L (by omega)) ?_)
     refine awOps.rn ?_
     refine AW.rt ?_
     all_goals first | contradiction | rfl | (simp; done) | (simp; omega)
end Go.Proofs
