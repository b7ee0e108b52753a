/- A part of the proof: no condition of its own. -/
import Derived.Test.YtboaclfnjdhcpaaDoorPart1
import Derived.IntWalk
import Derived.Test.YtboaclfnjdhcpaaDoorProg
namespace Aw
open Go
def grp4 (a b c d : UInt8) : Nat:=((a.toNat * 256 + b.toNat) * 256 + c.toNat) * 256 + d.toNat
def digF (n k : Nat) : Nat:=n / 85 ^ (4 - k) % 85
def chF (n k : Nat) : UInt8:=UInt8.ofNat (33 + digF n k)
def fiveB : Byt → Byt
 | a :: b :: c :: d :: t=>(if grp4 a b c d = 0 then [122] else [chF (grp4 a b c d) 0,chF (grp4 a b c d) 1,chF (grp4 a b c d) 2,chF (grp4 a b c d) 3,chF (grp4 a b c d) 4]) ++ fiveB t
 | [a,b,c]=>[chF (grp4 a b c 0) 0,chF (grp4 a b c 0) 1,chF (grp4 a b c 0) 2,chF (grp4 a b c 0) 3]
 | [a,b]=>[chF (grp4 a b 0 0) 0,chF (grp4 a b 0 0) 1,chF (grp4 a b 0 0) 2]
 | [a]=>[chF (grp4 a 0 0 0) 0,chF (grp4 a 0 0 0) 1]
 | []=>[]
def fiveE (s : Byt) : Byt:=fiveB s ++ [126,62]
def val5 (l : List Nat) : Nat:=(((l.getD 0 84 * 85 + l.getD 1 84) * 85 + l.getD 2 84) * 85 + l.getD 3 84) * 85 + l.getD 4 84
def bytes4 (n : Nat) : Byt:=[UInt8.ofNat (n / 16777216),UInt8.ofNat (n / 65536),UInt8.ofNat (n / 256),UInt8.ofNat n]
def unfiveS (most : Nat) : Byt → List Nat → Byt → Byt × AErr
 | [],_,_=>([],.ending)
 | c :: s,l,out =>
  if whiteC c = true then unfiveS most s l out
  else if c = 122 ∧ l = [] then (if out.length + 4 ≤ most then unfiveS most s [] (out ++ [0,0,0,0]) else ([],.long))
  else if 33 ≤ c ∧ c ≤ 117 then
   if l.length = 4 then
    if 4294967296 ≤ val5 (l ++ [c.toNat - 33]) then ([],.form) else if out.length + 4 ≤ most then unfiveS most s [] (out ++ bytes4 (val5 (l ++ [c.toNat - 33]))) else ([],.long)
   else unfiveS most s (l ++ [c.toNat - 33]) out
  else if c = 126 then match s with
   | []=>([],.ending)
   | x :: _=>if x = 62 ∧ l.length ≠ 1 then
     if l = [] then (out,.ok) else if 4294967296 ≤ val5 l then ([],.form) else if out.length + (l.length - 1) ≤ most then (out ++ (bytes4 (val5 l)).take (l.length - 1),.ok) else ([],.long)
    else ([],.form)
  else ([],.form)
def unfiveD (s : Byt) (most : Int) : Byt × AErr:=if most < 0 then ([],.arg) else unfiveS (min most.toNat 1048576) s [] []
theorem dig_lt (n k : Nat) : digF n k < 85:=Nat.mod_lt _ (by decide)
theorem ch_nat (n k : Nat) : (chF n k).toNat = 33 + digF n k:=by
 have:=dig_lt n k
 unfold chF
 rw [UInt8.toNat_ofNat']
 omega
theorem ch_ok (n k : Nat) : whiteC (chF n k) = false ∧ chF n k ≠ 122 ∧ (33 ≤ chF n k ∧ chF n k ≤ 117) ∧ (chF n k).toNat - 33 = digF n k:=by
 have h:=ch_nat n k
 have hl:=dig_lt n k
 have hw : ∀ c : UInt8,33 ≤ c.toNat → whiteC c = false:=fun c=>u8_all (p:=fun c=>33 ≤ c.toNat → whiteC c = false) (by decide +kernel) c
 refine ⟨hw _ (by omega),?_,⟨?_,?_⟩,by omega⟩
 ·rw [ne_eq,← UInt8.toNat_inj,h]; show ¬ 33 + digF n k = 122; omega
 ·rw [UInt8.le_iff_toNat_le,h]; show 33 ≤ 33 + digF n k; omega
 ·rw [UInt8.le_iff_toNat_le,h]; show 33 + digF n k ≤ 117; omega
theorem un_dig {most n k : Nat} {s : Byt} {l : List Nat} {out : Byt} (hl : l.length < 4) : unfiveS most (chF n k :: s) l out = unfiveS most s (l ++ [digF n k]) out:=by
 obtain ⟨h1,h2,h3,h4⟩:=ch_ok n k
 conv=>lhs; unfold unfiveS
 rw [if_neg (by rw [h1]; decide),if_neg (fun h=>h2 h.1),if_pos h3,if_neg (by omega),h4]
theorem un_dig5 {most n k : Nat} {s : Byt} {l : List Nat} {out : Byt} (hl : l.length = 4) : unfiveS most (chF n k :: s) l out =
  if 4294967296 ≤ val5 (l ++ [digF n k]) then ([],.form) else if out.length + 4 ≤ most then unfiveS most s [] (out ++ bytes4 (val5 (l ++ [digF n k]))) else ([],.long):=by
 obtain ⟨h1,h2,h3,h4⟩:=ch_ok n k
 conv=>lhs; unfold unfiveS
 rw [if_neg (by rw [h1]; decide),if_neg (fun h=>h2 h.1),if_pos h3,if_pos hl,h4]
theorem val_full {n : Nat} (h : n < 4294967296) : val5 [digF n 0,digF n 1,digF n 2,digF n 3,digF n 4] = n:=by
 unfold val5 digF
 simp only [List.getD_cons_zero,List.getD_cons_succ,show (85 : Nat) ^ (4 - 0) = 52200625 from rfl,show (85 : Nat) ^ (4 - 1) = 614125 from rfl,show (85 : Nat) ^ (4 - 2) = 7225 from rfl,show (85 : Nat) ^ (4 - 3) = 85 from rfl,show (85 : Nat) ^ (4 - 4) = 1 from rfl]
 omega
theorem grp_lt (a b c d : UInt8) : grp4 a b c d < 4294967296:=by
 have:=a.toNat_lt; have:=b.toNat_lt; have:=c.toNat_lt; have:=d.toNat_lt
 unfold grp4
 omega
theorem ofNat_eq {c : UInt8} {n : Nat} (h : n % 256 = c.toNat) : UInt8.ofNat n = c:=by
 rw [← UInt8.toNat_inj,UInt8.toNat_ofNat']
 exact h
theorem bytes_grp (a b c d : UInt8) : bytes4 (grp4 a b c d) = [a,b,c,d]:=by
 have:=a.toNat_lt; have:=b.toNat_lt; have:=c.toNat_lt; have:=d.toNat_lt
 unfold bytes4 grp4
 rw [ofNat_eq (c:=a) (by omega),ofNat_eq (c:=b) (by omega),ofNat_eq (c:=c) (by omega),ofNat_eq (c:=d) (by omega)]
def grpB (a b c d : UInt8) : Byt:=if grp4 a b c d = 0 then [122] else [chF (grp4 a b c d) 0,chF (grp4 a b c d) 1,chF (grp4 a b c d) 2,chF (grp4 a b c d) 3,chF (grp4 a b c d) 4]
theorem un_grp (most : Nat) (a b c d : UInt8) (s out : Byt) : unfiveS most (grpB a b c d ++ s) [] out = if out.length + 4 ≤ most then unfiveS most s [] (out ++ [a,b,c,d]) else ([],.long):=by
 unfold grpB
 split
 ·rename_i h0
  have:=a.toNat_lt; have:=b.toNat_lt; have:=c.toNat_lt; have:=d.toNat_lt
  unfold grp4 at h0
  have ea : a = 0:=by rw [← UInt8.toNat_inj]; show a.toNat = 0; omega
  have eb : b = 0:=by rw [← UInt8.toNat_inj]; show b.toNat = 0; omega
  have ec : c = 0:=by rw [← UInt8.toNat_inj]; show c.toNat = 0; omega
  have ed : d = 0:=by rw [← UInt8.toNat_inj]; show d.toNat = 0; omega
  subst ea eb ec ed
  show unfiveS most (122 :: s) [] out = _
  conv=>lhs; unfold unfiveS
  rw [if_neg (by decide),if_pos (by simp)]
 ·show unfiveS most (chF (grp4 a b c d) 0 :: chF (grp4 a b c d) 1 :: chF (grp4 a b c d) 2 :: chF (grp4 a b c d) 3 :: chF (grp4 a b c d) 4 :: s) [] out = _
  rw [un_dig (by decide),un_dig (by simp),un_dig (by simp),un_dig (by simp),un_dig5 (by simp)]
  simp only [List.nil_append,List.cons_append]
  rw [val_full (grp_lt a b c d),if_neg (by have:=grp_lt a b c d; omega),bytes_grp]
theorem un_end {most : Nat} {s : Byt} {l : List Nat} {out : Byt} : unfiveS most (126 :: 62 :: s) l out = if l.length = 1 then ([],.form) else if l = [] then (out,.ok) else if 4294967296 ≤ val5 l then ([],.form) else
  if out.length + (l.length - 1) ≤ most then (out ++ (bytes4 (val5 l)).take (l.length - 1),.ok) else ([],.long):=by
 conv=>lhs; unfold unfiveS
 rw [if_neg (by decide),if_neg (fun h=>absurd h.1 (by decide)),if_neg (by decide),if_pos rfl]
 simp only
 by_cases h : l.length = 1
 ·rw [if_neg (fun q=>q.2 h),if_pos h]
 ·rw [if_pos ⟨trivial,h⟩,if_neg h]
theorem dig_pows (n : Nat) : digF n 0 = n / 52200625 % 85 ∧ digF n 1 = n / 614125 % 85 ∧ digF n 2 = n / 7225 % 85 ∧ digF n 3 = n / 85 % 85:=⟨rfl,rfl,rfl,rfl⟩
theorem b3 {a b c e : Nat} (ha : a < 256) (hb : b < 256) (hc : c < 256) (he : e < 256) : ((a * 65536 + b * 256 + c) * 256 + e) / 16777216 % 256 = a ∧ ((a * 65536 + b * 256 + c) * 256 + e) / 65536 % 256 = b ∧ ((a * 65536 + b * 256 + c) * 256 + e) / 256 % 256 = c:=by
 refine ⟨?_,?_,?_⟩ <;> omega
theorem b2 {a b e : Nat} (ha : a < 256) (hb : b < 256) (he : e < 65536) : ((a * 256 + b) * 65536 + e) / 16777216 % 256 = a ∧ ((a * 256 + b) * 65536 + e) / 65536 % 256 = b:=by
 refine ⟨?_,?_⟩ <;> omega
theorem b1 {a e : Nat} (ha : a < 256) (he : e < 16777216) : (a * 16777216 + e) / 16777216 % 256 = a:=by omega
theorem un_tail3 (most : Nat) (a b c : UInt8) (s out : Byt) : unfiveS most (fiveB [a,b,c] ++ 126 :: 62 :: s) [] out = if out.length + 3 ≤ most then (out ++ [a,b,c],.ok) else ([],.long):=by
 show unfiveS most (chF (grp4 a b c 0) 0 :: chF (grp4 a b c 0) 1 :: chF (grp4 a b c 0) 2 :: chF (grp4 a b c 0) 3 :: 126 :: 62 :: s) [] out = _
 rw [un_dig (by decide),un_dig (by simp),un_dig (by simp),un_dig (by simp),un_end]
 have:=a.toNat_lt; have:=b.toNat_lt; have:=c.toNat_lt
 obtain ⟨d0,d1,d2,d3⟩:=dig_pows (grp4 a b c 0)
 have hv : val5 [digF (grp4 a b c 0) 0,digF (grp4 a b c 0) 1,digF (grp4 a b c 0) 2,digF (grp4 a b c 0) 3] = grp4 a b c 0 / 85 * 85 + 84:=by
  have:=grp_lt a b c 0
  unfold val5
  simp only [List.getD_cons_zero,List.getD_cons_succ,List.getD_nil]
  rw [d0,d1,d2,d3]
  omega
 simp only [List.nil_append,List.cons_append]
 rw [if_neg (by simp),if_neg (by simp),hv]
 have hg : grp4 a b c 0 = (a.toNat * 65536 + b.toNat * 256 + c.toNat) * 256:=by unfold grp4; rw [show (0 : UInt8).toNat = 0 from rfl]; omega
 obtain ⟨e,he,hx⟩ : ∃ e,e < 256 ∧ ((a.toNat * 65536 + b.toNat * 256 + c.toNat) * 256) / 85 * 85 + 84 = ((a.toNat * 65536 + b.toNat * 256 + c.toNat) * 256) + e:=⟨((a.toNat * 65536 + b.toNat * 256 + c.toNat) * 256) / 85 * 85 + 84 - ((a.toNat * 65536 + b.toNat * 256 + c.toNat) * 256),by omega,by omega⟩
 rw [hg,hx,if_neg (by omega)]
 show (if out.length + 3 ≤ most then (out ++ (bytes4 _).take 3,AErr.ok) else _) = _
 unfold bytes4
 obtain ⟨q1,q2,q3⟩:=b3 (a:=a.toNat) (b:=b.toNat) (c:=c.toNat) (by omega) (by omega) (by omega) he
 rw [ofNat_eq q1,ofNat_eq q2,ofNat_eq q3]
 rfl
theorem un_tail2 (most : Nat) (a b : UInt8) (s out : Byt) : unfiveS most (fiveB [a,b] ++ 126 :: 62 :: s) [] out = if out.length + 2 ≤ most then (out ++ [a,b],.ok) else ([],.long):=by
 show unfiveS most (chF (grp4 a b 0 0) 0 :: chF (grp4 a b 0 0) 1 :: chF (grp4 a b 0 0) 2 :: 126 :: 62 :: s) [] out = _
 rw [un_dig (by decide),un_dig (by simp),un_dig (by simp),un_end]
 have:=a.toNat_lt; have:=b.toNat_lt
 obtain ⟨d0,d1,d2,d3⟩:=dig_pows (grp4 a b 0 0)
 have hv : val5 [digF (grp4 a b 0 0) 0,digF (grp4 a b 0 0) 1,digF (grp4 a b 0 0) 2] = grp4 a b 0 0 / 7225 * 7225 + 7224:=by
  have:=grp_lt a b 0 0
  unfold val5
  simp only [List.getD_cons_zero,List.getD_cons_succ,List.getD_nil]
  rw [d0,d1,d2]
  omega
 simp only [List.nil_append,List.cons_append]
 rw [if_neg (by simp),if_neg (by simp),hv]
 have hg : grp4 a b 0 0 = (a.toNat * 256 + b.toNat) * 65536:=by unfold grp4; rw [show (0 : UInt8).toNat = 0 from rfl]; omega
 obtain ⟨e,he,hx⟩ : ∃ e,e < 65536 ∧ ((a.toNat * 256 + b.toNat) * 65536) / 7225 * 7225 + 7224 = ((a.toNat * 256 + b.toNat) * 65536) + e:=⟨((a.toNat * 256 + b.toNat) * 65536) / 7225 * 7225 + 7224 - ((a.toNat * 256 + b.toNat) * 65536),by omega,by omega⟩
 rw [hg,hx,if_neg (by omega)]
 show (if out.length + 2 ≤ most then (out ++ (bytes4 _).take 2,AErr.ok) else _) = _
 unfold bytes4
 obtain ⟨q1,q2⟩:=b2 (a:=a.toNat) (b:=b.toNat) (by omega) (by omega) he
 rw [ofNat_eq q1,ofNat_eq q2]
 rfl
theorem un_tail1 (most : Nat) (a : UInt8) (s out : Byt) : unfiveS most (fiveB [a] ++ 126 :: 62 :: s) [] out = if out.length + 1 ≤ most then (out ++ [a],.ok) else ([],.long):=by
 show unfiveS most (chF (grp4 a 0 0 0) 0 :: chF (grp4 a 0 0 0) 1 :: 126 :: 62 :: s) [] out = _
 rw [un_dig (by decide),un_dig (by simp),un_end]
 have:=a.toNat_lt
 obtain ⟨d0,d1,d2,d3⟩:=dig_pows (grp4 a 0 0 0)
 have hv : val5 [digF (grp4 a 0 0 0) 0,digF (grp4 a 0 0 0) 1] = grp4 a 0 0 0 / 614125 * 614125 + 614124:=by
  have:=grp_lt a 0 0 0
  unfold val5
  simp only [List.getD_cons_zero,List.getD_cons_succ,List.getD_nil]
  rw [d0,d1]
  omega
 simp only [List.nil_append,List.cons_append]
 rw [if_neg (by simp),if_neg (by simp),hv]
 have hg : grp4 a 0 0 0 = a.toNat * 16777216:=by unfold grp4; rw [show (0 : UInt8).toNat = 0 from rfl]; omega
 obtain ⟨e,he,hx⟩ : ∃ e,e < 16777216 ∧ (a.toNat * 16777216) / 614125 * 614125 + 614124 = (a.toNat * 16777216) + e:=⟨(a.toNat * 16777216) / 614125 * 614125 + 614124 - (a.toNat * 16777216),by omega,by omega⟩
 rw [hg,hx,if_neg (by omega)]
 show (if out.length + 1 ≤ most then (out ++ (bytes4 _).take 1,AErr.ok) else _) = _
 unfold bytes4
 rw [ofNat_eq (b1 (a:=a.toNat) (by omega) he)]
 rfl
theorem fiveB_grp (a b c d : UInt8) (t : Byt) : fiveB (a :: b :: c :: d :: t) = grpB a b c d ++ fiveB t:=rfl
theorem unfive_run (most : Nat) (tail : Byt) : ∀ (s out : Byt),out.length ≤ most → unfiveS most (fiveB s ++ 126 :: 62 :: tail) [] out = if out.length + s.length ≤ most then (out ++ s,.ok) else ([],.long)
 | a :: b :: c :: d :: t,out,h=>by
  rw [fiveB_grp,List.append_assoc,un_grp]
  by_cases h4 : out.length + 4 ≤ most
  ·rw [if_pos h4,unfive_run most tail t (out ++ [a,b,c,d]) (by simpa using h4)]
   simp only [List.length_append,List.length_cons,List.length_nil,List.append_assoc,List.cons_append,List.nil_append]
   rw [show out.length + (0 + 1 + 1 + 1 + 1) + t.length = out.length + (t.length + 1 + 1 + 1 + 1) by omega]
  ·rw [if_neg h4,if_neg (by simp only [List.length_cons]; omega)]
 | [a,b,c],out,_=>un_tail3 most a b c tail out
 | [a,b],out,_=>un_tail2 most a b tail out
 | [a],out,_=>un_tail1 most a tail out
 | [],out,h=>by
  show unfiveS most (126 :: 62 :: tail) [] out = _
  rw [un_end,if_neg (by decide),if_pos rfl,if_pos (by simpa using h),List.append_nil]
theorem unfive_back (s behind : Byt) (h : s.length ≤ 1048576) : unfiveD (fiveE s ++ behind) s.length = (s,.ok):=by
 unfold unfiveD fiveE
 have:=unfive_run (min (s.length : Int).toNat 1048576) behind s [] (Nat.zero_le _)
 rw [if_neg (by omega),List.append_assoc]
 show unfiveS _ (fiveB s ++ 126 :: 62 :: behind) [] [] = _
 rw [this,if_pos (by simp only [List.length_nil]; omega)]
 rfl
theorem unfive_small (s : Byt) (n : Nat) (h : n < s.length) : unfiveD (fiveE s) n = ([],.long):=by
 unfold unfiveD fiveE
 have:=unfive_run (min (n : Int).toNat 1048576) [] s [] (Nat.zero_le _)
 rw [if_neg (by omega),this,if_neg (by simp only [List.length_nil]; omega)]
theorem un_cut0 (most : Nat) (l : List Nat) (out : Byt) : unfiveS most [] l out = ([],.ending):=by unfold unfiveS; rfl
theorem un_cut1 (most : Nat) (l : List Nat) (out : Byt) : unfiveS most [126] l out = ([],.ending):=by
 unfold unfiveS
 rw [if_neg (by decide),if_neg (fun h=>absurd h.1 (by decide)),if_neg (by decide),if_pos rfl]
theorem unfive_cutS (most : Nat) {t : Byt} (ht : ∀ l out,unfiveS most t l out = ([],.ending)) : ∀ (s out : Byt),out.length + s.length ≤ most → unfiveS most (fiveB s ++ t) [] out = ([],.ending)
 | a :: b :: c :: d :: r,out,h=>by
  simp only [List.length_cons] at h
  rw [fiveB_grp,List.append_assoc,un_grp,if_pos (by omega)]
  exact unfive_cutS most ht r _ (by simp; omega)
 | [a,b,c],out,_=>by
  show unfiveS most (chF (grp4 a b c 0) 0 :: chF (grp4 a b c 0) 1 :: chF (grp4 a b c 0) 2 :: chF (grp4 a b c 0) 3 :: t) [] out = _
  rw [un_dig (by decide),un_dig (by simp),un_dig (by simp),un_dig (by simp),ht]
 | [a,b],out,_=>by
  show unfiveS most (chF (grp4 a b 0 0) 0 :: chF (grp4 a b 0 0) 1 :: chF (grp4 a b 0 0) 2 :: t) [] out = _
  rw [un_dig (by decide),un_dig (by simp),un_dig (by simp),ht]
 | [a],out,_=>by
  show unfiveS most (chF (grp4 a 0 0 0) 0 :: chF (grp4 a 0 0 0) 1 :: t) [] out = _
  rw [un_dig (by decide),un_dig (by simp),ht]
 | [],out,_=>ht [] out
theorem unfive_cut (s : Byt) (h : s.length ≤ 1048576) : unfiveD (fiveB s ++ [126]) s.length = ([],.ending) ∧ unfiveD (fiveB s) s.length = ([],.ending):=by
 unfold unfiveD
 rw [if_neg (by omega)]
 refine ⟨unfive_cutS _ (fun l out=>un_cut1 _ l out) s [] (by simp only [List.length_nil]; omega),?_⟩
 have:=unfive_cutS (min (s.length : Int).toNat 1048576) (t:=[]) (fun l out=>un_cut0 _ l out) s [] (by simp only [List.length_nil]; omega)
 rwa [List.append_nil] at this
theorem unfiveS_pre {most : Nat} {s t : Byt} (h : ∀ l out,unfiveS most s l out = unfiveS most t l out) : ∀ (a : Byt) (l : List Nat) (out : Byt),(∀ c ∈ a,c ≠ 126) → unfiveS most (a ++ s) l out = unfiveS most (a ++ t) l out
 | [],l,out,_=>h l out
 | c :: a,l,out,hc=>by
  have h9 : c ≠ 126:=hc c List.mem_cons_self
  have ih:=fun l out=>unfiveS_pre h a l out fun x hx=>hc x (List.mem_cons_of_mem _ hx)
  simp only [List.cons_append,unfiveS,ih,h9,if_false]
theorem unfive_white {most : Nat} {a b : Byt} {w : UInt8} (hw : whiteC w = true) (ha : ∀ c ∈ a,c ≠ 126) (l : List Nat) (out : Byt) : unfiveS most (a ++ w :: b) l out = unfiveS most (a ++ b) l out :=
 unfiveS_pre (fun l out=>by conv=>lhs; unfold unfiveS; rw [if_pos hw]) a l out ha
theorem ch_126 (n k : Nat) : chF n k ≠ 126:=fun h=>by
 have:=(ch_ok n k).2.2.1.2
 rw [h] at this
 exact absurd this (by decide)
theorem fiveB_126 : ∀ (s : Byt),∀ c ∈ fiveB s,c ≠ 126
 | a :: b :: c :: d :: t,x,hx=>by
  rw [fiveB_grp,List.mem_append] at hx
  rcases hx with hx | hx
  ·unfold grpB at hx
   split at hx
   ·rw [List.mem_singleton] at hx
    rw [hx]
    decide
   ·simp only [List.mem_cons,List.not_mem_nil,or_false] at hx
    rcases hx with rfl | rfl | rfl | rfl | rfl <;> exact ch_126 _ _
  ·exact fiveB_126 t x hx
 | [a,b,c],x,hx=>by
  simp only [fiveB,List.mem_cons,List.not_mem_nil,or_false] at hx
  rcases hx with rfl | rfl | rfl | rfl <;> exact ch_126 _ _
 | [a,b],x,hx=>by
  simp only [fiveB,List.mem_cons,List.not_mem_nil,or_false] at hx
  rcases hx with rfl | rfl | rfl <;> exact ch_126 _ _
 | [a],x,hx=>by
  simp only [fiveB,List.mem_cons,List.not_mem_nil,or_false] at hx
  rcases hx with rfl | rfl <;> exact ch_126 _ _
 | [],x,hx=>by cases hx
theorem fiveB_len : ∀ (s : Byt),(fiveB s).length ≤ 5 * ((s.length + 3) / 4)
 | a :: b :: c :: d :: t=>by
  have ih:=fiveB_len t
  have hg : (grpB a b c d).length ≤ 5:=by unfold grpB; split <;> simp
  rw [fiveB_grp,List.length_append]
  simp only [List.length_cons]
  omega
 | [a,b,c]=>by simp [fiveB]
 | [a,b]=>by simp [fiveB]
 | [a]=>by simp [fiveB]
 | []=>by simp [fiveB]
theorem fiveE_len (s : Byt) : (fiveE s).length ≤ 5 * ((s.length + 3) / 4) + 2:=by
 have:=fiveB_len s
 unfold fiveE
 rw [List.length_append]
 simp only [List.length_cons,List.length_nil]
 omega
def digI (c : UInt8) : Int:=match digC c with | none=>-1 | some d=>d
theorem digI_bd (c : UInt8) : -1 ≤ digI c ∧ digI c ≤ 15:=u8_all (p:=fun c=>-1 ≤ digI c ∧ digI c ≤ 15) (by decide +kernel) c
theorem digI_neg {c : UInt8} (h : digI c < 0) : digC c = none:=by
 unfold digI at h
 split at h
 ·assumption
 ·omega
theorem digI_pos {c : UInt8} (h : 0 ≤ digI c) : digC c = some (digI c).toNat:=by
 unfold digI at *
 split at h
 ·omega
 ·rename_i d hd
  rw [hd]
  simp
theorem digI_d {c : UInt8} (h1 : 48 ≤ (c.toNat : Int)) (h2 : (c.toNat : Int) ≤ 57) : digI c = (c.toNat : Int) - 48 :=
 u8_all (p:=fun c=>48 ≤ (c.toNat : Int) → (c.toNat : Int) ≤ 57 → digI c = (c.toNat : Int) - 48) (by decide +kernel) c h1 h2
theorem digI_u {c : UInt8} (h1 : 65 ≤ (c.toNat : Int)) (h2 : (c.toNat : Int) ≤ 70) : digI c = (c.toNat : Int) - 55 :=
 u8_all (p:=fun c=>65 ≤ (c.toNat : Int) → (c.toNat : Int) ≤ 70 → digI c = (c.toNat : Int) - 55) (by decide +kernel) c h1 h2
theorem digI_l {c : UInt8} (h1 : 97 ≤ (c.toNat : Int)) (h2 : (c.toNat : Int) ≤ 102) : digI c = (c.toNat : Int) - 87 :=
 u8_all (p:=fun c=>97 ≤ (c.toNat : Int) → (c.toNat : Int) ≤ 102 → digI c = (c.toNat : Int) - 87) (by decide +kernel) c h1 h2
theorem digI_n {c : UInt8} (h1 : ¬ (48 ≤ (c.toNat : Int) ∧ (c.toNat : Int) ≤ 57)) (h2 : ¬ (65 ≤ (c.toNat : Int) ∧ (c.toNat : Int) ≤ 70)) (h3 : ¬ (97 ≤ (c.toNat : Int) ∧ (c.toNat : Int) ≤ 102)) : digI c = -1 :=
 u8_all (p:=fun c=>¬ (48 ≤ (c.toNat : Int) ∧ (c.toNat : Int) ≤ 57) → ¬ (65 ≤ (c.toNat : Int) ∧ (c.toNat : Int) ≤ 70) → ¬ (97 ≤ (c.toNat : Int) ∧ (c.toNat : Int) ≤ 102) → digI c = -1) (by decide +kernel) c h1 h2 h3
theorem digs_hi (c : UInt8) : (([48,49,50,51,52,53,54,55,56,57,65,66,67,68,69,70] : List UInt8).getD (c.toNat / 16) 0) = hexC (c.toNat / 16) :=
 u8_all (p:=fun c=>(([48,49,50,51,52,53,54,55,56,57,65,66,67,68,69,70] : List UInt8).getD (c.toNat / 16) 0) = hexC (c.toNat / 16)) (by decide +kernel) c
theorem digs_lo (c : UInt8) : (([48,49,50,51,52,53,54,55,56,57,65,66,67,68,69,70] : List UInt8).getD (c.toNat % 16) 0) = hexC (c.toNat % 16) :=
 u8_all (p:=fun c=>(([48,49,50,51,52,53,54,55,56,57,65,66,67,68,69,70] : List UInt8).getD (c.toNat % 16) 0) = hexC (c.toNat % 16)) (by decide +kernel) c
theorem u8_hi4 (c : UInt8) : bitShr .u8 (c.toNat : Int) 4 = ((c.toNat / 16 : Nat) : Int):=u8_all (p:=fun c=>bitShr .u8 (c.toNat : Int) 4 = ((c.toNat / 16 : Nat) : Int)) (by decide +kernel) c
theorem u8_lo4 (c : UInt8) : bitAnd .u8 (c.toNat : Int) 15 = ((c.toNat % 16 : Nat) : Int):=u8_all (p:=fun c=>bitAnd .u8 (c.toNat : Int) 15 = ((c.toNat % 16 : Nat) : Int)) (by decide +kernel) c
theorem hexB_succ (s : Byt) (i : Nat) (h : i < s.length) : hexB (s.take (i + 1)) = hexB (s.take i) ++ [hexC ((s.getD i 0).toNat / 16),hexC ((s.getD i 0).toNat % 16)]:=by
 rw [List.take_succ_eq_append_getElem h]
 simp only [hexB,List.flatMap_append,List.flatMap_cons,List.flatMap_nil,List.append_nil,List.getD,List.getElem?_eq_getElem h,Option.getD_some]
theorem rwhite (c : UInt8) : (decide ((c.toNat : Int) = 0) || decide ((c.toNat : Int) = 9) || decide ((c.toNat : Int) = 10) || decide ((c.toNat : Int) = 12) || decide ((c.toNat : Int) = 13) || decide ((c.toNat : Int) = 32)) = whiteC c :=
 u8_all (p:=fun c=>(decide ((c.toNat : Int) = 0) || decide ((c.toNat : Int) = 9) || decide ((c.toNat : Int) = 10) || decide ((c.toNat : Int) = 12) || decide ((c.toNat : Int) = 13) || decide ((c.toNat : Int) = 32)) = whiteC c) (by decide +kernel) c
/-! ### equal bytes -/
theorem tw_lt {p : UInt8 → Bool} : ∀ (l : Byt) (n : Nat),n ≤ (l.takeWhile p).length → (n < (l.takeWhile p).length ↔ n < l.length ∧ p (l.getD n 0) = true)
 | [],n,_=>by simp
 | c :: l,n,h=>by
  rw [List.takeWhile_cons] at h ⊢
  by_cases hp : p c = true
  ·rw [if_pos hp] at h ⊢
   cases n with
   | zero=>simp [hp]
   | succ n =>
    have:=tw_lt l n (by simpa using h)
    simpa using this
  ·rw [if_neg hp] at h ⊢
   have hn : n = 0:=by simpa using h
   subst hn
   simp [hp]
theorem alike_lt {s : Byt} {n : Nat} (hs : s ≠ []) (h : n ≤ alikeN s) : (n < alikeN s ↔ n < 128 ∧ n < s.length ∧ s.getD n 0 = s.getD 0 0):=by
 cases s with
 | nil=>exact absurd rfl hs
 | cons c t =>
  rw [alikeN_cons] at h ⊢
  have:=tw_lt (p:=(· == c)) (c :: t) n (by omega)
  simp only [beq_iff_eq] at this
  rw [List.getD_cons_zero]
  constructor
  ·intro q
   exact ⟨by omega,this.1 (by omega)⟩
  ·intro q
   have:=this.2 q.2
   omega
theorem getD_drop0 (s : Byt) (a n : Nat) : (s.drop a).getD n 0 = s.getD (a + n) 0:=by
 simp [List.getD,List.getElem?_drop]
end Aw

namespace Go.Proofs
open Go Aw
@[go_sem] theorem ti1 : tinfo Tryd.prog 1 = some ⟨.func,1,8,some [.raw .nilFunc]⟩:=by kernel_rfl
@[go_sem] theorem ti2 : tinfo Tryd.prog 2 = some ⟨.int .i64,1,8,some [.int .i64 0]⟩:=by kernel_rfl
@[go_sem] theorem ti3 : tinfo Tryd.prog 3 = some ⟨.int .i64,1,8,some [.int .i64 0]⟩:=by kernel_rfl
@[go_sem] theorem ti4 : tinfo Tryd.prog 4 = some ⟨.bool,1,1,some [.bool false]⟩:=by kernel_rfl
@[go_sem] theorem ti5 : tinfo Tryd.prog 5 = some ⟨.int .u8,1,1,some [.int .u8 0]⟩:=by kernel_rfl
@[go_sem] theorem ti9 : tinfo Tryd.prog 9 = some ⟨.str,1,16,some [.str []]⟩:=by kernel_rfl
@[go_sem] theorem ti12 : tinfo Tryd.prog 12 = some ⟨.int .u64,1,8,some [.int .u64 0]⟩:=by kernel_rfl
@[go_sem] theorem ti13 : tinfo Tryd.prog 13 = some ⟨.struct [(0,9),(1,12)],2,24,some [.str [],.int .u64 0]⟩:=by kernel_rfl
@[go_sem high] theorem bl13 : blist Tryd.prog 13 = some [(0,1),(1,1)]:=by kernel_rfl
@[go_sem] theorem ti20 : tinfo Tryd.prog 20 = some ⟨.iface,1,16,some [.raw .nilIface]⟩:=by kernel_rfl
@[go_sem] theorem ti21 : tinfo Tryd.prog 21 = some ⟨.int .i32,1,4,some [.int .i32 0]⟩:=by kernel_rfl
@[go_sem] theorem ti22 : tinfo Tryd.prog 22 = some ⟨.func,1,8,some [.raw .nilFunc]⟩:=by kernel_rfl
@[go_sem] theorem ti23 : tinfo Tryd.prog 23 = some ⟨.int .i64,1,8,some [.int .i64 0]⟩:=by kernel_rfl
@[go_sem] theorem ti25 : tinfo Tryd.prog 25 = some ⟨.func,1,8,some [.raw .nilFunc]⟩:=by kernel_rfl
@[go_sem] theorem ti26 : tinfo Tryd.prog 26 = some ⟨.func,1,8,some [.raw .nilFunc]⟩:=by kernel_rfl
@[go_sem] theorem ti27 : tinfo Tryd.prog 27 = some ⟨.func,1,8,some [.raw .nilFunc]⟩:=by kernel_rfl
@[go_sem] theorem ti28 : tinfo Tryd.prog 28 = some ⟨.func,1,8,some [.raw .nilFunc]⟩:=by kernel_rfl
@[go_sem] theorem ti29 : tinfo Tryd.prog 29 = some ⟨.slice 5,1,24,some [.raw (.slice none 0 0)]⟩:=by kernel_rfl
@[go_sem] theorem ti30 : tinfo Tryd.prog 30 = some ⟨.func,1,8,some [.raw .nilFunc]⟩:=by kernel_rfl
@[go_sem] theorem ti31 : tinfo Tryd.prog 31 = some ⟨.func,1,8,some [.raw .nilFunc]⟩:=by kernel_rfl
@[go_sem] theorem ti32 : tinfo Tryd.prog 32 = some ⟨.func,1,8,some [.raw .nilFunc]⟩:=by kernel_rfl
@[go_sem] theorem ti33 : tinfo Tryd.prog 33 = some ⟨.ptr 72,1,8,some [.raw (.pointer none)]⟩:=by kernel_rfl
@[go_sem] theorem ti34 : tinfo Tryd.prog 34 = some ⟨.func,1,8,some [.raw .nilFunc]⟩:=by kernel_rfl
@[go_sem] theorem ti35 : tinfo Tryd.prog 35 = some ⟨.func,1,8,some [.raw .nilFunc]⟩:=by kernel_rfl
@[go_sem] theorem ti36 : tinfo Tryd.prog 36 = some ⟨.func,1,8,some [.raw .nilFunc]⟩:=by kernel_rfl
@[go_sem] theorem ti37 : tinfo Tryd.prog 37 = some ⟨.func,1,8,some [.raw .nilFunc]⟩:=by kernel_rfl
@[go_sem] theorem ti38 : tinfo Tryd.prog 38 = some ⟨.func,1,8,some [.raw .nilFunc]⟩:=by kernel_rfl
@[go_sem] theorem ti39 : tinfo Tryd.prog 39 = some ⟨.arr 5 5,5,5,some [.int .u8 0,.int .u8 0,.int .u8 0,.int .u8 0,.int .u8 0]⟩:=by kernel_rfl
@[go_sem high] theorem bl39 : blist Tryd.prog 39 = some [(0,1),(1,1),(2,1),(3,1),(4,1)]:=by kernel_rfl
@[go_sem] theorem ti40 : tinfo Tryd.prog 40 = some ⟨.struct [(0,39),(5,3)],6,16,some [.int .u8 0,.int .u8 0,.int .u8 0,.int .u8 0,.int .u8 0,.int .i64 0]⟩:=by kernel_rfl
@[go_sem high] theorem bl40 : blist Tryd.prog 40 = some [(0,5),(5,1)]:=by kernel_rfl
@[go_sem] theorem ti41 : tinfo Tryd.prog 41 = some ⟨.struct [(0,39),(5,3)],6,16,some [.int .u8 0,.int .u8 0,.int .u8 0,.int .u8 0,.int .u8 0,.int .i64 0]⟩:=by kernel_rfl
@[go_sem high] theorem bl41 : blist Tryd.prog 41 = some [(0,5),(5,1)]:=by kernel_rfl
@[go_sem] theorem ti42 : tinfo Tryd.prog 42 = some ⟨.func,1,8,some [.raw .nilFunc]⟩:=by kernel_rfl
@[go_sem] theorem ti43 : tinfo Tryd.prog 43 = some ⟨.func,1,8,some [.raw .nilFunc]⟩:=by kernel_rfl
@[go_sem] theorem ti44 : tinfo Tryd.prog 44 = some ⟨.ptr 41,1,8,some [.raw (.pointer none)]⟩:=by kernel_rfl
@[go_sem] theorem ti45 : tinfo Tryd.prog 45 = some ⟨.func,1,8,some [.raw .nilFunc]⟩:=by kernel_rfl
@[go_sem] theorem ti46 : tinfo Tryd.prog 46 = some ⟨.int .u64,1,8,some [.int .u64 0]⟩:=by kernel_rfl
@[go_sem] theorem ti47 : tinfo Tryd.prog 47 = some ⟨.func,1,8,some [.raw .nilFunc]⟩:=by kernel_rfl
@[go_sem] theorem ti48 : tinfo Tryd.prog 48 = some ⟨.func,1,8,some [.raw .nilFunc]⟩:=by kernel_rfl
@[go_sem] theorem ti49 : tinfo Tryd.prog 49 = some ⟨.func,1,8,some [.raw .nilFunc]⟩:=by kernel_rfl
@[go_sem] theorem ti50 : tinfo Tryd.prog 50 = some ⟨.ptr 52,1,8,some [.raw (.pointer none)]⟩:=by kernel_rfl
@[go_sem] theorem ti51 : tinfo Tryd.prog 51 = some ⟨.struct [(0,50),(1,29)],2,32,some [.raw (.pointer none),.raw (.slice none 0 0)]⟩:=by kernel_rfl
@[go_sem high] theorem bl51 : blist Tryd.prog 51 = some [(0,1),(1,1)]:=by kernel_rfl
@[go_sem] theorem ti52 : tinfo Tryd.prog 52 = some ⟨.struct [(0,50),(1,29)],2,32,some [.raw (.pointer none),.raw (.slice none 0 0)]⟩:=by kernel_rfl
@[go_sem high] theorem bl52 : blist Tryd.prog 52 = some [(0,1),(1,1)]:=by kernel_rfl
@[go_sem] theorem ti53 : tinfo Tryd.prog 53 = some ⟨.func,1,8,some [.raw .nilFunc]⟩:=by kernel_rfl
@[go_sem] theorem ti54 : tinfo Tryd.prog 54 = some ⟨.func,1,8,some [.raw .nilFunc]⟩:=by kernel_rfl
@[go_sem] theorem ti55 : tinfo Tryd.prog 55 = some ⟨.func,1,8,some [.raw .nilFunc]⟩:=by kernel_rfl
@[go_sem] theorem ti56 : tinfo Tryd.prog 56 = some ⟨.arr 4 5,4,4,some [.int .u8 0,.int .u8 0,.int .u8 0,.int .u8 0]⟩:=by kernel_rfl
@[go_sem high] theorem bl56 : blist Tryd.prog 56 = some [(0,1),(1,1),(2,1),(3,1)]:=by kernel_rfl
@[go_sem] theorem ti57 : tinfo Tryd.prog 57 = some ⟨.iface,1,16,some [.raw .nilIface]⟩:=by kernel_rfl
@[go_sem] theorem ti58 : tinfo Tryd.prog 58 = some ⟨.iface,1,16,some [.raw .nilIface]⟩:=by kernel_rfl
@[go_sem] theorem ti59 : tinfo Tryd.prog 59 = some ⟨.func,1,8,some [.raw .nilFunc]⟩:=by kernel_rfl
@[go_sem] theorem ti60 : tinfo Tryd.prog 60 = some ⟨.int .u64,1,8,some [.int .u64 0]⟩:=by kernel_rfl
@[go_sem] theorem ti61 : tinfo Tryd.prog 61 = some ⟨.slice 46,1,24,some [.raw (.slice none 0 0)]⟩:=by kernel_rfl
@[go_sem] theorem ti62 : tinfo Tryd.prog 62 = some ⟨.arr 5 46,5,40,some [.int .u64 0,.int .u64 0,.int .u64 0,.int .u64 0,.int .u64 0]⟩:=by kernel_rfl
@[go_sem high] theorem bl62 : blist Tryd.prog 62 = some [(0,1),(1,1),(2,1),(3,1),(4,1)]:=by kernel_rfl
@[go_sem] theorem ti63 : tinfo Tryd.prog 63 = some ⟨.func,1,8,some [.raw .nilFunc]⟩:=by kernel_rfl
@[go_sem] theorem ti64 : tinfo Tryd.prog 64 = some ⟨.func,1,8,some [.raw .nilFunc]⟩:=by kernel_rfl
@[go_sem] theorem ti65 : tinfo Tryd.prog 65 = some ⟨.func,1,8,some [.raw .nilFunc]⟩:=by kernel_rfl
@[go_sem] theorem ti67 : tinfo Tryd.prog 67 = some ⟨.func,1,8,some [.raw .nilFunc]⟩:=by kernel_rfl
@[go_sem] theorem ti68 : tinfo Tryd.prog 68 = some ⟨.func,1,8,some [.raw .nilFunc]⟩:=by kernel_rfl
@[go_sem] theorem ti69 : tinfo Tryd.prog 69 = some ⟨.struct [(0,23)],1,8,some [.int .i64 0]⟩:=by kernel_rfl
@[go_sem high] theorem bl69 : blist Tryd.prog 69 = some [(0,1)]:=by kernel_rfl
@[go_sem] theorem ti70 : tinfo Tryd.prog 70 = some ⟨.struct [(0,23)],1,8,some [.int .i64 0]⟩:=by kernel_rfl
@[go_sem high] theorem bl70 : blist Tryd.prog 70 = some [(0,1)]:=by kernel_rfl
@[go_sem] theorem ti71 : tinfo Tryd.prog 71 = some ⟨.struct [(0,29),(1,3)],2,32,some [.raw (.slice none 0 0),.int .i64 0]⟩:=by kernel_rfl
@[go_sem high] theorem bl71 : blist Tryd.prog 71 = some [(0,1),(1,1)]:=by kernel_rfl
@[go_sem] theorem ti72 : tinfo Tryd.prog 72 = some ⟨.struct [(0,29),(1,3)],2,32,some [.raw (.slice none 0 0),.int .i64 0]⟩:=by kernel_rfl
@[go_sem high] theorem bl72 : blist Tryd.prog 72 = some [(0,1),(1,1)]:=by kernel_rfl
@[go_sem] theorem ti73 : tinfo Tryd.prog 73 = some ⟨.func,1,8,some [.raw .nilFunc]⟩:=by kernel_rfl
@[go_sem] theorem ti75 : tinfo Tryd.prog 75 = some ⟨.func,1,8,some [.raw .nilFunc]⟩:=by kernel_rfl
@[go_sem] theorem ti76 : tinfo Tryd.prog 76 = some ⟨.func,1,8,some [.raw .nilFunc]⟩:=by kernel_rfl
@[go_sem] theorem ti77 : tinfo Tryd.prog 77 = some ⟨.func,1,8,some [.raw .nilFunc]⟩:=by kernel_rfl
@[go_sem] theorem ti78 : tinfo Tryd.prog 78 = some ⟨.func,1,8,some [.raw .nilFunc]⟩:=by kernel_rfl
@[go_sem] theorem ti79 : tinfo Tryd.prog 79 = some ⟨.ptr 5,1,8,some [.raw (.pointer none)]⟩:=by kernel_rfl
@[go_sem] theorem ti80 : tinfo Tryd.prog 80 = some ⟨.int .u32,1,4,some [.int .u32 0]⟩:=by kernel_rfl
@[go_sem] theorem ti82 : tinfo Tryd.prog 82 = some ⟨.func,1,8,some [.raw .nilFunc]⟩:=by kernel_rfl
@[go_sem] theorem ti84 : tinfo Tryd.prog 84 = some ⟨.func,1,8,some [.raw .nilFunc]⟩:=by kernel_rfl
@[go_sem] theorem ti87 : tinfo Tryd.prog 87 = some ⟨.func,1,8,some [.raw .nilFunc]⟩:=by kernel_rfl
end Go.Proofs

namespace Aw
open Go
theorem FnP.ofBelow {P : Program} {gl : List (Nat × AV)} {f : FuncId} {xs : List AV} {y : AV} (hen : Aw.enters P f)
  (h : ∀ m vs,Start m gl → RepL m 1 xs vs → Calls P f vs.toArray m.w fun e w'=>(∃ v,e = .returned v ∧ ∀ m,Rep m 2 y v) ∧ RowKit.Below m.w.heap.size m.w w') : FnP P gl f xs fun r=>r = .ret y:=by
 refine ⟨hen,fun m vs hm hv=>(h m vs hm hv).mono ?_⟩
 rintro e w' ⟨⟨v,rfl,hy⟩,hb⟩
 have hblk : ∀ b,b < m.w.heap.size → w'.heap[b]? = m.w.heap[b]?:=hb.block
 refine ⟨{ m with w:=w' },.ret y,rfl,⟨hb.os,hb.tape,hb.output,hb.size,rfl,fun b hp=>hblk b (hm.Pold b hp),fun _ _ h=>h,fun b o hf=>Aw.cell?_of_block (hblk b (hm.Fold b o hf)),fun _ _ _ h=>h,rfl,fun _ _ _ h=>h⟩,
  fun b o hf=>Nat.lt_of_lt_of_le (hm.Fold b o hf) hb.size,⟨v,rfl,hy _⟩,rfl⟩
end Aw
namespace Go.Proofs
open Go Aw
set_option linter.unusedSimpArgs false
set_option linter.unusedVariables false
set_option maxRecDepth 100000
set_option maxHeartbeats 4000000
attribute [local go_sem] u8_hi4 u8_lo4
theorem c_strings_IndexByte (gl : List (Nat × AV)) (s : List UInt8) (c : Int) : FnP Tryd.prog gl 46 [.str s,.int .u8 c] fun r=>r = .ret (.int .i64 (Lib.indexByte s c.toNat.toUInt8)):=by
 refine FnP.same (enters_of Tryd.func46 rfl rfl) ?_
 intro m vs _ hv
 simp only [RepL,Rep] at hv
 obtain ⟨_,_,rfl,rfl,_,_,rfl,rfl,rfl⟩:=hv
 refine (Tryd.strings_IndexByte ⟨s.toArray⟩ c m.w).mono ?_
 rintro e w' ⟨rfl,rfl⟩
 exact ⟨⟨_,rfl,fun m=>by simp only [Rep]⟩,rfl⟩
theorem c_strings_Repeat (gl : List (Nat × AV)) (s : List UInt8) (n : Nat) (h : s.length * n ≤ 140737488355328) (hn : n ≤ 9223372036854775807) : FnP Tryd.prog gl 35 [.str s,.int .i64 n] fun r=>r = .ret (.str (Lib.repeatL s n)):=by
 refine FnP.ofBelow (enters_of Tryd.func35 rfl rfl) ?_
 intro m vs _ hv
 simp only [RepL,Rep] at hv
 obtain ⟨_,_,rfl,rfl,_,_,rfl,rfl,rfl⟩:=hv
 refine (Tryd.strings_Repeat ⟨s.toArray⟩ n m.w hn (by simpa [ByteArray.size] using h)).mono ?_
 rintro e w' ⟨rfl,hb⟩
 exact ⟨⟨_,rfl,fun m=>by simp only [Rep]⟩,hb⟩
theorem c_octet_White (gl : List (Nat × AV)) (c : UInt8) : FnP Tryd.prog (gl) 23 [.int .u8 c.toNat] fun r=>r = .ret (.bool (whiteC c)):=by
 refine FnP.intro Tryd.func23 rfl rfl (by simp [Tryd.ntmps23]) ?_
 simp only [argEnv,Tryd.ntmps23,Tryd.results23]
 refine AW.rS ?_
 refine AW.rSC ?_
 refine awOps.cons (awGuard.c1 (c_strings_IndexByte _ _ _) ?_)
 refine awOps.rn ?_
 refine AW.rt ?_
 have e : decide (0 ≤ Lib.indexByte [0,9,10,12,13,32] ((c.toNat : Int)).toNat.toUInt8) = whiteC c:=u8_all (p:=fun c=>decide (0 ≤ Lib.indexByte [0,9,10,12,13,32] ((c.toNat : Int)).toNat.toUInt8) = whiteC c) (by decide +kernel) c
 rw [← e]
 rfl
theorem c_octet_Digit (gl : List (Nat × AV)) (c : UInt8) : FnP Tryd.prog (gl) 22 [.int .u8 c.toNat] fun r=>r = .ret (.int .i64 (digI c)):=by
 refine FnP.intro Tryd.func22 rfl rfl (by simp [Tryd.ntmps22]) ?_
 simp only [argEnv,Tryd.ntmps22,Tryd.results22]
 have hc:=u8_le c
 refine AW.rS ?_
 refine AW.seq ?_
 refine AW.block ?_
 refine AW.rS ?_
 refine AW.c2 ?_ ?_
 ·intro h5
  refine AW.rS ?_
  refine AW.rt ?_
  rw [digI_d h5.1 h5.2]
 ·intro h5
  refine AW.rS ?_
  refine AW.c2 ?_ ?_
  ·intro h10
   refine AW.rS ?_
   refine AW.rt ?_
   rw [digI_u h10.1 h10.2]
   congr 2
   omega
  ·intro h10
   refine AW.rS ?_
   refine AW.c2 ?_ ?_
   ·intro h15
    refine AW.rS ?_
    refine AW.rt ?_
    rw [digI_l h15.1 h15.2]
    congr 2
    omega
   ·intro h15
    refine AW.skip ?_
    refine AW.rS ?_
    refine AW.rt ?_
    rw [digI_n (by omega) (by omega) (by omega)]
theorem c_octet_Hex (gl : List (Nat × AV)) (s : List UInt8) (hs : s.length ≤ 1000000:=by first | omega | exact u8_le _ | assumption | (simp; done) | (simp; omega)) : FnP Tryd.prog (gl) 36 [.str s] fun r=>r = .ret (.str (hexB s)):=by
 refine FnP.intro Tryd.func36 rfl rfl (by simp [Tryd.ntmps36]) ?_
 simp only [argEnv,Tryd.ntmps36,Tryd.results36]
 refine AW.rS ?_
 refine AW.rS ?_
 refine AW.seq ?_
 refine AW.rS ?_
 refine AW.block ?_
 refine AW.lk (S:={ i : Nat // i ≤ s.length }) [0,10] (fun s_=>[(3,.row 0 0 (hexB (s.take s_.1)).length),(11,.int .i64 s_.1)]) (fun s_=>[(0,.row 1 (bytesAV (hexB (s.take s_.1))) true)]) 1 (fun s_=>s.length - s_.1) ⟨0,Nat.zero_le _⟩ ?_ ?_
 ·refine St.le.vw [0]
 rintro ⟨i,hi⟩
 try dsimp only at hi
 refine AW.rS ?_
 refine AW.seq ?_
 refine AW.c2 ?_ ?_
 ·intro h9
  have hl:=hexB_len (s.take i)
  have hl2 : (s.take i).length = i:=by simp; omega
  have hb:=(s.getD i 0).toNat_lt
  refine AW.skip ?_
  refine AW.seq ?_
  refine AW.block ?_
  refine AW.rS ?_
  refine AW.dL [(0,0),(1,0),(2,0),(3,0),(4,0),(5,0),(6,0),(7,0),(8,0),(9,0),(10,0),(11,2),(12,2),(13,0)] ?_
  refine AW.rL ?_
  have hl3:=hexB_len (s.take (i + 1))
  have hl4 : (s.take (i + 1)).length = i + 1:=by simp; omega
  refine ⟨⟨i + 1,h9⟩,?_,?_⟩
  ·refine St.le.vx [2] ?_
   rw [hexB_succ s i h9,← digs_hi,← digs_lo,bB_append] <;> rfl
  ·simp only []; omega
 ·intro h9
  refine AW.exit ?_
  refine AW.rS ?_
  refine AW.rt ?_
  rw [List.take_of_length_le (by omega)]
theorem c_foliantref01_White (gl : List (Nat × AV)) (c : UInt8) : FnP Tryd.prog (gl) 26 [.int .u8 c.toNat] fun r=>r = .ret (.bool (whiteC c)):=by
 refine FnP.intro Tryd.func26 rfl rfl (by simp [Tryd.ntmps26]) ?_
 simp only [argEnv,Tryd.ntmps26,Tryd.results26]
 refine AW.rS ?_
 refine AW.rS ?_
 refine AW.rt ?_
 rw [← rwhite c]
 simp
theorem c_foliantref01_Digit (gl : List (Nat × AV)) (c : UInt8) : FnP Tryd.prog (gl) 27 [.int .u8 c.toNat] fun r=>r = .ret (.int .i64 (digI c)):=by
 refine FnP.intro Tryd.func27 rfl rfl (by simp [Tryd.ntmps27]) ?_
 simp only [argEnv,Tryd.ntmps27,Tryd.results27]
 have hc:=u8_le c
 refine AW.rS ?_
 refine AW.seq ?_
 refine AW.rS ?_
 refine AW.c2 ?_ ?_
 ·intro h4
  refine AW.rS ?_
  refine AW.rt ?_
  rw [digI_d h4.1 h4.2]
 ·intro h4
  refine AW.skip ?_
  refine AW.seq ?_
  refine AW.rS ?_
  refine AW.c2 ?_ ?_
  ·intro h11
   refine AW.rS ?_
   refine AW.rt ?_
   rw [digI_u h11.1 h11.2]
   congr 2
   omega
  ·intro h11
   refine AW.skip ?_
   refine AW.seq ?_
   refine AW.rS ?_
   refine AW.c2 ?_ ?_
   ·intro h18
    refine AW.rS ?_
    refine AW.rt ?_
    rw [digI_l h18.1 h18.2]
    congr 2
    omega
   ·intro h18
    refine AW.skip ?_
    refine AW.rS ?_
    refine AW.rt ?_
    rw [digI_n (by omega) (by omega) (by omega)]
theorem c_foliantref01_Hex (gl : List (Nat × AV)) (s : List UInt8) (hs : s.length ≤ 1000000:=by first | omega | exact u8_le _ | assumption | (simp; done) | (simp; omega)) : FnP Tryd.prog (gl) 37 [.str s] fun r=>r = .ret (.str (hexB s)):=by
 refine FnP.intro Tryd.func37 rfl rfl (by simp [Tryd.ntmps37]) ?_
 simp only [argEnv,Tryd.ntmps37,Tryd.results37]
 refine AW.rS ?_
 refine AW.rS ?_
 refine AW.rS ?_
 refine AW.seq ?_
 refine AW.rS ?_
 refine AW.block ?_
 refine AW.pre (St.le.nilrow 4 1 (by (simp only [go_sem,seval]; iterate 2 try (simp (disch:=omega) only [zq]; try simp only [go_sem,seval])))) ?_
 refine wk ?_
 refine AW.lk (S:={ i : Nat // i ≤ s.length }) [0,3] (fun s_=>[(4,.row 0 0 (hexB (s.take s_.1)).length),(5,.int .i64 s_.1)]) (fun s_=>[(0,.row 1 (bytesAV (hexB (s.take s_.1))) true)]) 1 (fun s_=>s.length - s_.1) ⟨0,Nat.zero_le _⟩ ?_ ?_
 ·refine St.le.vw [0]
 rintro ⟨i,hi⟩
 try dsimp only at hi
 refine AW.seq ?_
 refine AW.rS ?_
 refine AW.c2 ?_ ?_
 ·intro h10
  have hl:=hexB_len (s.take i)
  have hl2 : (s.take i).length = i:=by simp; omega
  have hb:=(s.getD i 0).toNat_lt
  refine AW.skip ?_
  refine AW.seq ?_
  refine AW.block ?_
  refine AW.dL [(0,0),(1,0),(2,0),(3,0),(4,0),(5,0),(6,0),(7,0),(8,0),(9,0),(10,0),(11,0),(12,0),(13,2),(14,2),(15,0)] ?_
  refine AW.rL ?_
  have hl3:=hexB_len (s.take (i + 1))
  have hl4 : (s.take (i + 1)).length = i + 1:=by simp; omega
  refine ⟨⟨i + 1,h10⟩,?_,?_⟩
  ·refine St.le.vx [2] ?_
   rw [hexB_succ s i h10,← digs_hi,← digs_lo,bB_append,show (((s.getD i 0).toNat : Int) / 16).toNat = (s.getD i 0).toNat / 16 from by omega,show (((s.getD i 0).toNat : Int) % 16).toNat = (s.getD i 0).toNat % 16 from by omega] <;> rfl
  ·simp only []; omega
 ·intro h10
  refine AW.exit ?_
  refine AW.rS ?_
  refine AW.rt ?_
  rw [List.take_of_length_le (by omega)]
theorem c_ascii_Hex (gl : List (Nat × AV)) (s : List UInt8) (hs : s.length ≤ 1000000:=by first | omega | exact u8_le _ | assumption | (simp; done) | (simp; omega)) : FnP Tryd.prog (gl) 14 [.str s] fun r=>r = .ret (.str (hexE s)):=by
 refine FnP.intro Tryd.func14 rfl rfl (by simp [Tryd.ntmps14]) ?_
 simp only [argEnv,Tryd.ntmps14,Tryd.results14]
 refine AW.rS ?_
 refine AW.rSC ?_
 refine awOps.cons (awGuard.c1 (c_octet_Hex _ s) ?_)
 have hl:=hexB_len s
 refine awOps.rn ?_
 refine AW.rt ?_
 rfl
theorem c_foliantref14_Hex (gl : List (Nat × AV)) (s : List UInt8) (hs : s.length ≤ 1000000:=by first | omega | exact u8_le _ | assumption | (simp; done) | (simp; omega)) : FnP Tryd.prog (gl) 15 [.str s] fun r=>r = .ret (.str (hexE s)):=by
 refine FnP.intro Tryd.func15 rfl rfl (by simp [Tryd.ntmps15]) ?_
 simp only [argEnv,Tryd.ntmps15,Tryd.results15]
 refine AW.rS ?_
 refine AW.rSC ?_
 refine awOps.cons (awGuard.c1 (c_foliantref01_Hex _ s) ?_)
 have hl:=hexB_len s
 refine awOps.rn ?_
 refine AW.rt ?_
 rfl
theorem c_ascii_alike (gl : List (Nat × AV)) (s : List UInt8) (hs : s.length ≤ 16777216:=by first | omega | exact u8_le _ | assumption | (simp; done) | (simp; omega)) (hne : s ≠ []) : FnP Tryd.prog (gl) 42 [.str s] fun r=>r = .ret (.int .i64 (alikeN s)):=by
 refine FnP.intro Tryd.func42 rfl rfl (by simp [Tryd.ntmps42]) ?_
 simp only [argEnv,Tryd.ntmps42,Tryd.results42]
 have hlp : 0 < s.length:=List.length_pos_iff.2 hne
 refine AW.rS ?_
 refine AW.rS ?_
 refine AW.seq ?_
 refine AW.block ?_
 refine AW.lk (S:={ i : Nat // i ≤ alikeN s }) [0] (fun s_=>[(3,.int .i64 s_.1)]) (fun s_=>[]) 0 (fun s_=>alikeN s - s_.1) ⟨0,Nat.zero_le _⟩ ?_ ?_
 ·refine St.le.vw []
 rintro ⟨i,hi⟩
 try dsimp only at hi
 refine AW.seq ?_
 have hal:=alikeN_le s
 have hst:=alike_lt hne hi
 refine AW.dS [(0,0),(1,0),(2,1),(3,0),(4,0),(5,0),(6,0),(7,0),(8,0),(9,0),(10,0),(11,0),(12,0)] ?_
 refine AW.c2 ?_ ?_
 ·intro h8
  refine AW.skip ?_
  refine AW.block ?_
  refine AW.rL ?_
  refine ⟨⟨i + 1,by show i + 1 ≤ alikeN s; have:=hst.2 ⟨by omega,by omega,by rw [← UInt8.toNat_inj]; omega⟩; omega⟩,?_,?_⟩
  ·refine St.le.vw []
  ·have:=hst.2 ⟨by omega,by omega,by rw [← UInt8.toNat_inj]; omega⟩; show alikeN s - (i + 1) < alikeN s - i; omega
 ·intro h8
  refine AW.exit ?_
  refine AW.rS ?_
  refine AW.rt ?_
  have : ¬ i < alikeN s:=fun q=>by
   obtain ⟨q1,q2,q3⟩:=hst.1 q
   rw [q3] at h8
   omega
  congr 2
  omega
theorem c_foliantref14_alike (gl : List (Nat × AV)) (s : List UInt8) (a : Nat) (hs : s.length ≤ 16777216:=by first | omega | exact u8_le _ | assumption | (simp; done) | (simp; omega)) (ha : a < s.length) : FnP Tryd.prog (gl) 44 [.str s,.int .i64 a] fun r=>r = .ret (.int .i64 (alikeN (s.drop a))):=by
 refine FnP.intro Tryd.func44 rfl rfl (by simp [Tryd.ntmps44]) ?_
 simp only [argEnv,Tryd.ntmps44,Tryd.results44]
 have hne : s.drop a ≠ []:=by rw [ne_eq,List.drop_eq_nil_iff]; omega
 refine AW.rS ?_
 refine AW.rS ?_
 refine AW.seq ?_
 refine AW.block ?_
 refine AW.lk (S:={ i : Nat // i ≤ alikeN (s.drop a) }) [0,1] (fun s_=>[(5,.int .i64 s_.1)]) (fun s_=>[]) 0 (fun s_=>alikeN (s.drop a) - s_.1) ⟨0,Nat.zero_le _⟩ ?_ ?_
 ·refine St.le.vw []
 rintro ⟨i,hi⟩
 try dsimp only at hi
 refine AW.seq ?_
 have hal:=alikeN_le (s.drop a)
 have hst:=alike_lt hne hi
 rw [getD_drop0,getD_drop0,List.length_drop] at hst
 rw [List.length_drop] at hal
 simp only [Nat.add_zero] at hst
 refine AW.dS [(0,0),(1,0),(2,0),(3,0),(4,0),(5,0),(6,0),(7,1),(8,0),(9,0),(10,0),(11,0),(12,0),(13,0),(14,0),(15,0),(16,0),(17,0),(18,0),(19,0),(20,0)] ?_
 refine AW.c2 ?_ ?_
 ·intro h8
  rw [show ((a : Int) + (i : Int)).toNat = a + i from by omega] at h8
  refine AW.skip ?_
  refine AW.block ?_
  refine AW.rL ?_
  refine ⟨⟨i + 1,by show i + 1 ≤ alikeN (s.drop a); have:=hst.2 ⟨by omega,by omega,by rw [← UInt8.toNat_inj]; omega⟩; omega⟩,?_,?_⟩
  ·refine St.le.vw []
  ·have:=hst.2 ⟨by omega,by omega,by rw [← UInt8.toNat_inj]; omega⟩; show alikeN (s.drop a) - (i + 1) < alikeN (s.drop a) - i; omega
 ·intro h8
  rw [show ((a : Int) + (i : Int)).toNat = a + i from by omega] at h8
  refine AW.exit ?_
  refine AW.rS ?_
  refine AW.rt ?_
  have : ¬ i < alikeN (s.drop a):=fun q=>by
   obtain ⟨q1,q2,q3⟩:=hst.1 q
   rw [q3] at h8
   omega
  congr 2
  omega
end Go.Proofs

namespace Aw
open Go
def errI : AErr → Int
 | .ok=>0
 | .arg=>1
 | .form=>3
 | .ending=>4
 | .long=>5
def hiI : Option Nat → Int
 | none=>-1
 | some d=>d
theorem hiI_none : hiI none = -1:=rfl
theorem hiI_some (d : Nat) : hiI (some d) = (d : Int):=rfl
def hiOk (h : Option Nat) : Prop:=∀ d,h = some d → d ≤ 15
theorem hiI_bd {h : Option Nat} (hh : hiOk h) : -1 ≤ hiI h ∧ hiI h ≤ 15:=by
 cases h with
 | none=>exact ⟨Int.le_refl _,by decide⟩
 | some d=>have:=hh d rfl; exact ⟨by show -1 ≤ (d : Int); omega,by show (d : Int) ≤ 15; omega⟩
theorem hiOk_none : hiOk none:=fun _ h=>by cases h
theorem hiOk_dig (c : UInt8) : hiOk (some (digI c).toNat):=fun d h=>by
 have:=digI_bd c
 cases h
 omega
theorem hiI_dig {c : UInt8} (h : 0 ≤ digI c) : hiI (some (digI c).toNat) = digI c:=by
 show (((digI c).toNat : Nat) : Int) = _
 omega
theorem s_drop (s : Byt) (i : Nat) (h : i < s.length) : s.drop i = s.getD i 0 :: s.drop (i + 1):=by
 rw [List.drop_eq_getElem_cons h]
 simp [List.getD,h]
theorem u8_eq {c d : UInt8} (h : (c.toNat : Int) = (d.toNat : Int)) : c = d:=by
 rw [← UInt8.toNat_inj]
 omega
theorem u8_ne {c d : UInt8} (h : ¬ (c.toNat : Int) = (d.toNat : Int)) : c ≠ d:=fun e=>h (by rw [e])
theorem bB_snoc (out : Byt) {k : Int} (h0 : 0 ≤ k) (h1 : k ≤ 255) : bytesAV out ++ [[.int .u8 k]] = bytesAV (out ++ [UInt8.ofNat k.toNat]):=by
 simp only [bytesAV,List.map_append,List.map_cons,List.map_nil]
 congr 4
 rw [UInt8.toNat_ofNat']
 omega
theorem unhexS_end (M : Nat) (s : Byt) (h : Option Nat) (out : Byt) : unhexS M (62 :: s) h out = match h with
  | none=>(out,.ok)
  | some d=>if out.length + 1 ≤ M then (out ++ [UInt8.ofNat (16 * d)],.ok) else ([],.long):=by
 conv=>lhs; rw [unhexS.eq_def]
 simp only []
 rw [if_neg (by decide),if_pos trivial]
 cases h <;> rfl
theorem unhexS_dig (M : Nat) {c : UInt8} (s : Byt) (h : Option Nat) (out : Byt) (hw : whiteC c = false) (hc : c ≠ 62) : unhexS M (c :: s) h out = match digC c with
  | none=>([],.form)
  | some d=>match h with
   | none=>unhexS M s (some d) out
   | some h=>if out.length + 1 ≤ M then unhexS M s none (out ++ [UInt8.ofNat (16 * h + d)]) else ([],.long):=by
 conv=>lhs; rw [unhexS.eq_def]
 simp only []
 rw [if_neg (by rw [hw]; decide),if_neg hc]
 cases digC c <;> cases h <;> rfl
section
variable {M : Nat} {s : Byt} {i : Nat} {h : Option Nat} {out : Byt}
theorem ux_white (hi : i < s.length) (hw : whiteC (s.getD i 0) = true) : unhexS M (s.drop i) h out = unhexS M (s.drop (i + 1)) h out:=by
 rw [s_drop s i hi,unhexS_white hw]
theorem ux_end (hi : i < s.length) (hc : ((s.getD i 0).toNat : Int) = 62) : unhexS M (s.drop i) h out =
  if hiI h < 0 then (out,.ok) else if (M : Int) ≤ out.length then ([],.long) else (out ++ [UInt8.ofNat (16 * hiI h).toNat],.ok):=by
 have hc' : s.getD i 0 = 62:=u8_eq (d:=62) hc
 rw [s_drop s i hi,hc',unhexS_end]
 cases h with
 | none=>rw [if_pos (by decide)]
 | some d =>
  show (if out.length + 1 ≤ M then (out ++ [UInt8.ofNat (16 * d)],AErr.ok) else ([],.long)) = if (d : Int) < 0 then _ else if (M : Int) ≤ out.length then _ else (out ++ [UInt8.ofNat (16 * (d : Int)).toNat],AErr.ok)
  rw [if_neg (show ¬ (d : Int) < 0 by omega),show (16 * (d : Int)).toNat = 16 * d by omega]
  by_cases hm : out.length + 1 ≤ M
  ·rw [if_pos hm,if_neg (by omega)]
  ·rw [if_neg hm,if_pos (by omega)]
theorem ux_form (hi : i < s.length) (hw : whiteC (s.getD i 0) = false) (hc : ¬ ((s.getD i 0).toNat : Int) = 62) (hd : digI (s.getD i 0) < 0) : unhexS M (s.drop i) h out = ([],.form):=by
 rw [s_drop s i hi,unhexS_dig M _ h out hw (u8_ne (d:=62) hc),digI_neg hd]
theorem ux_first (hi : i < s.length) (hw : whiteC (s.getD i 0) = false) (hc : ¬ ((s.getD i 0).toNat : Int) = 62) (hd : 0 ≤ digI (s.getD i 0)) (hh : hiI h < 0) : unhexS M (s.drop i) h out = unhexS M (s.drop (i + 1)) (some (digI (s.getD i 0)).toNat) out:=by
 cases h with
 | some d=>simp only [hiI] at hh; omega
 | none=>rw [s_drop s i hi,unhexS_dig M _ _ out hw (u8_ne (d:=62) hc),digI_pos hd]
theorem ux_next (hi : i < s.length) (hw : whiteC (s.getD i 0) = false) (hc : ¬ ((s.getD i 0).toNat : Int) = 62) (hd : 0 ≤ digI (s.getD i 0)) (hh : 0 ≤ hiI h) : unhexS M (s.drop i) h out =
  if (M : Int) ≤ out.length then ([],.long) else unhexS M (s.drop (i + 1)) none (out ++ [UInt8.ofNat (16 * hiI h + digI (s.getD i 0)).toNat]):=by
 cases h with
 | none=>simp only [hiI] at hh; omega
 | some d =>
  rw [s_drop s i hi,unhexS_dig M _ _ out hw (u8_ne (d:=62) hc),digI_pos hd]
  show (if out.length + 1 ≤ M then unhexS M (s.drop (i + 1)) none (out ++ [UInt8.ofNat (16 * d + (digI (s.getD i 0)).toNat)]) else _) = if (M : Int) ≤ out.length then _ else unhexS M (s.drop (i + 1)) none (out ++ [UInt8.ofNat (16 * (d : Int) + digI (s.getD i 0)).toNat])
  rw [show (16 * (d : Int) + digI (s.getD i 0)).toNat = 16 * d + (digI (s.getD i 0)).toNat by omega]
  by_cases hm : out.length + 1 ≤ M
  ·rw [if_pos hm,if_neg (by omega)]
  ·rw [if_neg hm,if_pos (by omega)]
theorem ux_done (hi : ¬ i < s.length) : unhexS M (s.drop i) h out = ([],.ending):=by
 rw [List.drop_eq_nil_of_le (by omega)]
 rfl
end
theorem unhexD_neg {s : Byt} {most : Int} (h : most < 0) : unhexD s most = ([],.arg):=by rw [unhexD,if_pos h]
theorem unhexD_pos {s : Byt} {most : Int} (h : 0 ≤ most) : unhexD s most = unhexS (min most.toNat 1048576) s none []:=by rw [unhexD,if_neg (by omega)]
theorem ux_fail : ∀ (M : Nat) (s : Byt) (h : Option Nat) (out : Byt),¬ (unhexS M s h out).2 = .ok → (unhexS M s h out).1 = []
 | M,[],h,out=>by simp [unhexS]
 | M,c :: s,h,out=>by
  unfold unhexS
  split
  ·exact ux_fail M s h out
  ·split
   ·split
    ·simp
    ·split <;> simp
   ·split
    ·simp
    ·split
     ·exact ux_fail M s _ out
     ·split
      ·exact ux_fail M s _ _
      ·simp
theorem ux_len : ∀ (M : Nat) (s : Byt) (h : Option Nat) (out : Byt),out.length ≤ M → (unhexS M s h out).1.length ≤ M
 | M,[],h,out,_=>by simp [unhexS]
 | M,c :: s,h,out,ho=>by
  unfold unhexS
  split
  ·exact ux_len M s h out ho
  ·split
   ·split
    ·exact ho
    ·split
     ·simpa using ‹_›
     ·simp
   ·split
    ·simp
    ·split
     ·exact ux_len M s _ out ho
     ·split
      ·exact ux_len M s _ _ (by simpa using ‹_›)
      ·simp
end Aw

namespace Go.Proofs
open Go Aw
set_option linter.unusedSimpArgs false
set_option linter.unusedVariables false
set_option maxRecDepth 100000
set_option maxHeartbeats 4000000
attribute [local go_sem] hiI_none hiI_some
theorem c_foliantref14_Unhex (gl : List (Nat × AV)) (s : List UInt8) (most : Int) (hs : s.length ≤ 16777216:=by first | omega | exact u8_le _ | assumption | (simp; done) | (simp; omega)) : FnP Tryd.prog (gl) 9 [.str s,.int .i64 most] fun r=>r = .ret (.tup [.str (unhexD s most).1,.int .i64 (errI (unhexD s most).2)]):=by
 refine FnP.intro Tryd.func9 rfl rfl (by simp [Tryd.ntmps9]) ?_
 simp only [argEnv,Tryd.ntmps9,Tryd.results9]
 refine AW.rS ?_
 refine AW.seq ?_
 refine AW.rS ?_
 refine AW.c2 ?_ ?_
 ·intro h4
  refine AW.rS ?_
  refine AW.rt ?_
  rw [unhexD_neg h4]
  rfl
 ·intro h4
  refine AW.skip ?_
  refine AW.rS ?_
  refine AW.rS ?_
  refine AW.rS ?_
  refine AW.seq ?_
  refine AW.rS ?_
  refine AW.block ?_
  refine AW.pre (St.le.nilrow 6 1 (by (simp only [go_sem,seval]; iterate 2 try (simp (disch:=omega) only [zq]; try simp only [go_sem,seval])))) ?_
  refine wk ?_
  refine AW.lk (S:={ p : Nat × Option Nat × List UInt8 // p.1 ≤ s.length ∧ hiOk p.2.1 ∧ p.2.2.length ≤ min most.toNat 1048576 ∧ unhexD s most = unhexS (min most.toNat 1048576) (s.drop p.1) p.2.1 p.2.2 }) [0,1] (fun s_=>[(6,.row 0 0 s_.1.2.2.length),(7,.int .i64 (hiI s_.1.2.1)),(8,.int .i64 s_.1.1)]) (fun s_=>[(0,.row 1 (bytesAV s_.1.2.2) true)]) 1 (fun s_=>s.length - s_.1.1) ⟨(0,none,[]),Nat.zero_le _,hiOk_none,Nat.zero_le _,by rw [unhexD_pos (by omega)]; rfl⟩ ?_ ?_
  ·refine St.le.vw [0]
  rintro ⟨⟨i,hf,out⟩,hi,hok,hl,hsp⟩
  try dsimp only at hf
  try dsimp only at hi
  try dsimp only at hok
  try dsimp only at hl
  try dsimp only at hsp
  refine AW.seq ?_
  refine AW.rS ?_
  refine AW.c2 ?_ ?_
  ·intro h18
   have hbd:=hiI_bd hok
   have hdg:=digI_bd (s.getD i 0)
   refine AW.skip ?_
   refine AW.seq ?_
   refine AW.block ?_
   refine AW.seq ?_
   refine AW.rSC ?_
   refine awOps.cons (awGuard.c1 (c_foliantref01_White _ (s.getD i 0)) ?_)
   refine awOps.rn ?_
   refine AW.c2 ?_ ?_
   ·intro h26
    refine AW.exit ?_
    refine AW.rL ?_
    refine ⟨⟨(i + 1,hf,out),h18,hok,hl,hsp.trans (ux_white h18 h26)⟩,?_,?_⟩
    ·refine St.le.vw [0]
    ·simp only []; omega
   ·intro h26
    refine AW.skip ?_
    refine AW.rSC ?_
    refine awOps.cons (awGuard.c1 (c_foliantref01_Digit _ (s.getD i 0)) ?_)
    refine awOps.rn ?_
    refine AW.seq ?_
    refine AW.rS ?_
    refine AW.c2 ?_ ?_
    ·intro h36
     refine AW.seq ?_
     refine AW.rS ?_
     refine AW.c2 ?_ ?_
     ·intro h39
      refine AW.rS ?_
      refine AW.rt ?_
      rw [hsp,ux_end h18 h36,if_neg (by omega),if_pos (by omega)]
      rfl
     ·intro h39
      refine AW.skip ?_
      refine AW.seq ?_
      refine AW.rS ?_
      refine AW.c2 ?_ ?_
      ·intro h46
       refine AW.rL ?_
       rw [bB_snoc out (by omega) (by omega)]
       refine AW.vw [2] [(6,.row 0 0 (out ++ [UInt8.ofNat (16 * hiI hf).toNat]).length)] [(0,.row 1 (bytesAV (out ++ [UInt8.ofNat (16 * hiI hf).toNat])) true)] ?_
       refine AW.rS ?_
       refine AW.rt ?_
       rw [hsp,ux_end h18 h36,if_neg (by omega),if_neg (by omega)]
       rfl
      ·intro h46
       refine AW.skip ?_
       refine AW.rS ?_
       refine AW.rt ?_
       rw [hsp,ux_end h18 h36,if_pos (by omega)]
       rfl
    ·intro h36
     refine AW.skip ?_
     refine AW.seq ?_
     refine AW.rS ?_
     refine AW.c2 ?_ ?_
     ·intro h58
      refine AW.rS ?_
      refine AW.rt ?_
      rw [hsp,ux_form h18 h26 h36 h58]
      rfl
     ·intro h58
      refine AW.skip ?_
      refine AW.seq ?_
      refine AW.rS ?_
      refine AW.c2 ?_ ?_
      ·intro h65
       refine AW.rS ?_
       refine AW.exit ?_
       refine AW.rL ?_
       refine ⟨⟨(i + 1,some (digI (s.getD i 0)).toNat,out),h18,hiOk_dig _,hl,hsp.trans (ux_first h18 h26 h36 (by omega) h65)⟩,?_,?_⟩
       ·refine St.le.vw [0]
       ·simp only []; omega
      ·intro h65
       refine AW.skip ?_
       refine AW.seq ?_
       refine AW.rS ?_
       refine AW.c2 ?_ ?_
       ·intro h73
        refine AW.rS ?_
        refine AW.rt ?_
        rw [hsp,ux_next h18 h26 h36 (by omega) (by omega),if_pos (by omega)]
        rfl
       ·intro h73
        refine AW.skip ?_
        refine AW.rS ?_
        refine AW.rL ?_
        refine AW.rL ?_
        refine ⟨⟨(i + 1,none,out ++ [UInt8.ofNat (16 * hiI hf + digI (s.getD i 0)).toNat]),h18,hiOk_none,by simp; omega,hsp.trans ((ux_next h18 h26 h36 (by omega) (by omega)).trans (if_neg (by omega)))⟩,?_,?_⟩
        ·rw [bB_snoc out (by omega) (by omega)]; refine St.le.vw [2]
        ·simp only []; omega
  ·intro h18
   refine AW.exit ?_
   refine AW.rS ?_
   refine AW.rt ?_
   rw [hsp,ux_done h18]
   rfl
end Go.Proofs

namespace Aw
theorem bB_take (b : List UInt8) : List.take b.length (bytesAV b) = bytesAV b:=List.take_of_length_le (by rw [bB_len]; exact Nat.le_refl _)
theorem bB_single {k : Int} (h0 : 0 ≤ k) (h1 : k ≤ 255) : [[AV.int .u8 k]] = bytesAV [UInt8.ofNat k.toNat]:=bB_snoc [] h0 h1
end Aw
namespace Go.Proofs
open Go Aw
set_option linter.unusedSimpArgs false
set_option linter.unusedVariables false
set_option maxRecDepth 100000
set_option maxHeartbeats 4000000
attribute [local go_sem] hiI_none hiI_some bB_take bytesAV_append List.length_append
theorem c_ascii_need (gl : List (Nat × AV)) (b : Bool) (e : Int) : FnP Tryd.prog (gl) 25 [.bool b,.int .i64 e] fun r=>r = if b = true then .ret (.tup []) else .panic (.iface 70 (.agg [.int .i64 e])):=by
 refine FnP.intro Tryd.func25 rfl rfl (by simp [Tryd.ntmps25]) ?_
 simp only [argEnv,Tryd.ntmps25,Tryd.results25]
 refine AW.rS ?_
 refine AW.c2 ?_ ?_
 ·intro h2
  refine AW.rLC ?_
  refine awOps.cons (awGuard.pn ?_)
  refine wk ?_
  rw [h2] <;> rfl
 ·intro h2
  refine AW.skip ?_
  refine wk ?_
  rw [h2] <;> rfl
theorem h_put_r (gl : List (Nat × AV)) (out b : List UInt8) (M : Nat) (h : out.length ≤ 16777216) (hb : b.length ≤ 16777216) : FnK Tryd.prog (gl) 24 [.ptr 0 0,.row 2 0 b.length] ([(0,.cells [.row 1 0 out.length,.int .i64 M]),(1,.row 1 (bytesAV out) true),(2,.row 1 (bytesAV b) true)]) 3 1 (fun r h n=>((out.length + b.length ≤ M) ∧ r = .ret (.tup []) ∧ h = [(0,.cells [.row 1 0 (out ++ b).length,.int .i64 M]),(1,.row 1 (bytesAV (out ++ b)) true)] ∧ n = 2) ∨ (¬ (out.length + b.length ≤ M) ∧ r = .panic (.iface 70 (.agg [.int .i64 5])) ∧ 1 ≤ n)):=by
 refine FnK.intro Tryd.func24 rfl rfl (by simp [Tryd.ntmps24]) ?_
 simp only [argEnv,Tryd.ntmps24,Tryd.results24]
 refine AW.tGC (C:=out.length + b.length ≤ M) (σf:=?sf) (.take 0 0 (.take 1 0 (.take 2 0 (.take 5 0 (.take 6 0 (.take 8 0 (.take 9 0 (.take 10 0 (.take 3 2 (.take 4 0 (.take 7 0 (.take 11 2 (.take 12 0 (.fork 13 .done .stop)))))))))))))) ?tree ?rest
 case tree =>
  iterate 13 (refine awTree.tk ?_)
  refine awTree.fM (c_ascii_need _ _ 5) ?_ ?_ ?_
  ·intro hp2
   refine wk ?_
   first | exact .inr ⟨by omega,rfl,by omega⟩ | omega
  ·intro hm2
   exact awTree.dnC (by omega)
  ·exact trivial
 case rest =>
 intro hm2
 skip
 skip
 refine AW.fin2 ?_
 refine AW.rL ?_
 refine ⟨.inl rfl,⟨27,[],[(0,.cells [.row 1 0 (out ++ b).length,.int .i64 M]),(1,.row 1 (bytesAV (out ++ b)) true)],2,gl,1,[]⟩,St.le.vw [0,3],?_⟩
 refine wk ?_
 first | exact .inl ⟨by omega,rfl,rfl,rfl⟩ | omega
theorem h_put_s (gl : List (Nat × AV)) (out b : List UInt8) (M : Nat) (h : out.length ≤ 16777216) (hb : b.length ≤ 16777216) : FnK Tryd.prog (gl) 24 [.ptr 0 0,.sl (bytesAV b)] ([(0,.cells [.row 1 0 out.length,.int .i64 M]),(1,.row 1 (bytesAV out) true)]) 2 1 (fun r h n=>((out.length + b.length ≤ M) ∧ r = .ret (.tup []) ∧ h = [(0,.cells [.row 1 0 (out ++ b).length,.int .i64 M]),(1,.row 1 (bytesAV (out ++ b)) true)] ∧ n = 2) ∨ (¬ (out.length + b.length ≤ M) ∧ r = .panic (.iface 70 (.agg [.int .i64 5])) ∧ 1 ≤ n)):=by
 refine FnK.intro Tryd.func24 rfl rfl (by simp [Tryd.ntmps24]) ?_
 simp only [argEnv,Tryd.ntmps24,Tryd.results24]
 refine AW.tGC (C:=out.length + b.length ≤ M) (σf:=?sf) (.take 0 0 (.take 1 0 (.take 2 0 (.take 5 0 (.take 6 0 (.take 8 0 (.take 9 0 (.take 10 0 (.take 3 2 (.take 4 0 (.take 7 0 (.take 11 2 (.take 12 0 (.fork 13 .done .stop)))))))))))))) ?tree ?rest
 case tree =>
  iterate 13 (refine awTree.tk ?_)
  refine awTree.fM (c_ascii_need _ _ 5) ?_ ?_ ?_
  ·intro hp2
   refine wk ?_
   first | exact .inr ⟨by omega,rfl,by omega⟩ | omega
  ·intro hm2
   exact awTree.dnC (by omega)
  ·exact trivial
 case rest =>
 intro hm2
 skip
 skip
 refine AW.fin2 ?_
 refine AW.rL ?_
 refine ⟨.inl rfl,⟨27,[],[(0,.cells [.row 1 0 (out ++ b).length,.int .i64 M]),(1,.row 1 (bytesAV (out ++ b)) true)],2,gl,1,[]⟩,St.le.vw [0,2],?_⟩
 refine wk ?_
 first | exact .inl ⟨by omega,rfl,rfl,rfl⟩ | omega
end Go.Proofs

namespace Go.Proofs
open Go Aw
set_option linter.unusedSimpArgs false
set_option linter.unusedVariables false
set_option maxRecDepth 100000
set_option maxHeartbeats 4000000
attribute [local irreducible] unhexS
attribute [local go_sem] hiI_none hiI_some bB_take bytesAV_append List.length_append
theorem h_Unhex1 (gl : List (Nat × AV)) (s : List UInt8) (M : Nat) (hs : s.length ≤ 16777216) (hM : M ≤ 1048576) : FnK Tryd.prog (gl) 21 [.str s,.ptr 0 0] ([(0,.cells [.row 1 0 0,.int .i64 M]),(1,.row 1 [] true)]) 2 1 (fun r h n=>(((unhexS M s none []).2 = .ok) ∧ r = .ret (.tup []) ∧ h = [(0,.cells [.row 1 0 (unhexS M s none []).1.length,.int .i64 M]),(1,.row 1 (bytesAV (unhexS M s none []).1) true)] ∧ n = 2) ∨ (¬ ((unhexS M s none []).2 = .ok) ∧ r = .panic (.iface 70 (.agg [.int .i64 (errI (unhexS M s none []).2)])) ∧ 1 ≤ n)):=by
 refine FnK.intro Tryd.func21 rfl rfl (by simp [Tryd.ntmps21]) ?_
 simp only [argEnv,Tryd.ntmps21,Tryd.results21]
 refine AW.rS ?_
 refine AW.seq ?_
 refine AW.rS ?_
 refine AW.block ?_
 refine AW.lk (S:={ p : Nat × Option Nat × List UInt8 // p.1 ≤ s.length ∧ hiOk p.2.1 ∧ p.2.2.length ≤ M ∧ unhexS M s none [] = unhexS M (s.drop p.1) p.2.1 p.2.2 }) [0,1,9] (fun s_=>[(4,.int .i64 (hiI s_.1.2.1)),(10,.int .i64 s_.1.1)]) (fun s_=>[(0,.cells [.row 1 0 s_.1.2.2.length,.int .i64 M]),(1,.row 1 (bytesAV s_.1.2.2) true)]) 2 (fun s_=>s.length - s_.1.1) ⟨(0,none,[]),Nat.zero_le _,hiOk_none,Nat.zero_le _,rfl⟩ ?_ ?_
 ·refine St.le.vw [0,1]
 rintro ⟨⟨i,hf,out⟩,hi,hok,hl,hsp⟩
 try dsimp only at hf
 try dsimp only at hi
 try dsimp only at hok
 try dsimp only at hl
 try dsimp only at hsp
 refine AW.rS ?_
 refine AW.seq ?_
 refine AW.c2 ?_ ?_
 ·intro h8
  have hbd:=hiI_bd hok
  have hdg:=digI_bd (s.getD i 0)
  refine AW.skip ?_
  refine AW.seq ?_
  refine AW.block ?_
  refine AW.rS ?_
  refine AW.rS ?_
  refine AW.rSC ?_
  refine awOps.cons (awGuard.c1 (c_octet_Digit _ (s.getD i 0)) ?_)
  refine awOps.rn ?_
  refine AW.block ?_
  refine AW.rSC ?_
  refine awOps.cons (awGuard.c1 (c_octet_White _ (s.getD i 0)) ?_)
  refine awOps.rn ?_
  refine AW.c2 ?_ ?_
  ·intro h21
   refine AW.skip ?_
   refine AW.rL ?_
   refine ⟨⟨(i + 1,hf,out),h8,hok,hl,hsp.trans (ux_white h8 h21)⟩,?_,?_⟩
   ·refine St.le.vw [0,1]
   ·simp only []; omega
  ·intro h21
   refine AW.rS ?_
   refine AW.c2 ?_ ?_
   ·intro h26
    refine AW.seq ?_
    refine AW.rS ?_
    refine AW.c2 ?_ ?_
    ·intro h29
     refine AW.rLC ?_
     rw [bB_single (k:=16 * hiI hf) (by omega) (by omega)]
     refine awOps.cons (awGuard.cKM 1 [0,1,2] (h_put_r _ out [UInt8.ofNat (16 * hiI hf).toNat] M (by omega) (by simp)) ?_ ?_)
     ·intro hp31 n31 hn31
      refine wk ?_
      have e:=hsp.trans ((ux_end h8 h26).trans ((if_neg (by omega)).trans (if_pos (by have : ¬ out.length + 1 ≤ M:=hp31; omega))))
      rw [e]
      first | exact .inr ⟨by decide,rfl,by omega⟩ | (simp [errI]; done) | (simp [errI]; omega)
     intro hm31
     refine awOps.rn ?_
     have e:=hsp.trans ((ux_end h8 h26).trans ((if_neg (by omega)).trans (if_neg (by have : out.length + 1 ≤ M:=hm31; omega))))
     refine AW.vw [0,3] [] [(0,.cells [.row 1 0 (out ++ [UInt8.ofNat (16 * hiI hf).toNat]).length,.int .i64 M]),(1,.row 1 (bytesAV (out ++ [UInt8.ofNat (16 * hiI hf).toNat])) true)] ?_
     refine AW.rt ?_
     rw [e]
     simp
    ·intro h29
     refine AW.skip ?_
     refine AW.rt ?_
     have e:=hsp.trans ((ux_end h8 h26).trans (if_pos (by omega)))
     rw [e]
     simp
   ·intro h26
    refine AW.rS ?_
    refine AW.c2 ?_ ?_
    ·intro h39
     refine AW.rLC ?_
     refine awOps.cons (awGuard.cM (c_ascii_need _ false 3) ?_ ?_)
     ·intro hp41
      refine wk ?_
      have e:=hsp.trans (ux_form h8 h21 h26 h39)
      rw [e]
      first | exact .inr ⟨by decide,rfl,by omega⟩ | (simp [errI]; done) | (simp [errI]; omega)
     intro hm41
     refine awOps.rn ?_
     refine AW.rL ?_
     exact absurd hm41 (by simp)
    ·intro h39
     refine AW.rS ?_
     refine AW.c2 ?_ ?_
     ·intro h46
      refine AW.rL ?_
      refine AW.rL ?_
      refine ⟨⟨(i + 1,some (digI (s.getD i 0)).toNat,out),h8,hiOk_dig _,hl,hsp.trans (ux_first h8 h21 h26 (by omega) h46)⟩,?_,?_⟩
      ·refine St.le.vw [0,1]
      ·simp only []; omega
     ·intro h46
      refine AW.rSC ?_
      rw [bB_single (k:=16 * hiI hf + digI (s.getD i 0)) (by omega) (by omega)]
      refine awOps.cons (awGuard.cKM 1 [0,1,2] (h_put_r _ out [UInt8.ofNat (16 * hiI hf + digI (s.getD i 0)).toNat] M (by omega) (by simp)) ?_ ?_)
      ·intro hp51 n51 hn51
       refine wk ?_
       have e:=hsp.trans ((ux_next h8 h21 h26 (by omega) (by omega)).trans (if_pos (by have : ¬ out.length + 1 ≤ M:=hp51; omega)))
       rw [e]
       first | exact .inr ⟨by decide,rfl,by omega⟩ | (simp [errI]; done) | (simp [errI]; omega)
      intro hm51
      refine awOps.rn ?_
      refine AW.rL ?_
      refine AW.rL ?_
      refine ⟨⟨(i + 1,none,out ++ [UInt8.ofNat (16 * hiI hf + digI (s.getD i 0)).toNat]),h8,hiOk_none,by simp; omega,hsp.trans ((ux_next h8 h21 h26 (by omega) (by omega)).trans (if_neg (by have : out.length + 1 ≤ M:=hm51; omega)))⟩,?_,?_⟩
      ·refine St.le.vw [0,3]
      ·simp only []; omega
 ·intro h8
  refine AW.exit ?_
  refine AW.rLC ?_
  refine awOps.cons (awGuard.cM (c_ascii_need _ false 4) ?_ ?_)
  ·intro hp58
   refine wk ?_
   have e:=hsp.trans (ux_done h8)
   rw [e]
   first | exact .inr ⟨by decide,rfl,by omega⟩ | (simp [errI]; done) | (simp [errI]; omega)
  intro hm58
  refine awOps.rn ?_
  refine wk ?_
  exact absurd hm58 (by simp)
end Go.Proofs

namespace Go.Proofs
open Go Aw
set_option linter.unusedSimpArgs false
set_option linter.unusedVariables false
set_option maxRecDepth 100000
set_option maxHeartbeats 4000000
attribute [local irreducible] unhexS unfiveS
attribute [local go_sem] bB_take List.length_append
theorem d_unpacked_ret (gl : List (Nat × AV)) (s0 : List UInt8) (e0 : Int) : FnD Tryd.prog gl 45 [.ptr 0 0,.ptr 1 0] [(0,.cells [.str s0]),(1,.cells [.int .i64 e0])] 2 .ret (fun u hp nx=>u = .ret ∧ hp = [(0,.cells [.str s0]),(1,.cells [.int .i64 e0])] ∧ nx = 2):=by
 refine FnD.intro Tryd.func45 rfl rfl (by simp [Tryd.ntmps45]) ?_
 simp only [argEnv,Tryd.ntmps45,Tryd.results45]
 refine AWD.seq (AWD.regRecover rfl rfl rfl rfl (by simp only [go_sem,seval]) ?_)
 refine awOps.rn ?_
 refine AWD.of ?_
 refine AW.block ?_
 refine AW.rS ?_
 refine AW.c2 ?_ ?_
 ·intro h4
  refine AW.rL ?_
  refine wk ?_
  trivial
 ·intro h4
  simp at h4
theorem d_unpacked_pan (gl : List (Nat × AV)) (e : Int) : FnD Tryd.prog gl 45 [.ptr 0 0,.ptr 1 0] [(0,.cells [.str []]),(1,.cells [.int .i64 0])] 2 (.pan (.iface 70 (.agg [.int .i64 e]))) (fun u hp nx=>u = .ret ∧ hp = [(0,.cells [.str []]),(1,.cells [.int .i64 e]),(2,.cells [.int .i64 e])] ∧ nx = 3):=by
 refine FnD.intro Tryd.func45 rfl rfl (by simp [Tryd.ntmps45]) ?_
 simp only [argEnv,Tryd.ntmps45,Tryd.results45]
 refine AWD.seq (AWD.regRecover rfl rfl rfl rfl (by simp only [go_sem,seval]) ?_)
 refine awOps.rn ?_
 refine AWD.of ?_
 refine AW.block ?_
 refine AW.rS ?_
 refine AW.c2 ?_ ?_
 ·intro h4
  simp at h4
 ·intro h4
  refine AW.rS ?_
  refine AW.c2 ?_ ?_
  ·intro h9
   refine AW.rS ?_
   refine AW.tGL (σf:=?sf7) (.take 0 0 (.fork 1 (.fork 2 (.fork 3 .done .stop) .stop) (.fork 2 (.take 1 2 (.fork 3 .done .stop)) .stop))) ?tree7 ?rest7 (hQ:=?hQ)
   case hQ=>repeat (first | refine Aw.PI.unblock ?_ | refine Aw.PI.andThen ?_ | exact fun _ _ _ _ _ _ _ _ _ h=>h.elim)
   case tree7=>repeat' (first | exact True.intro | refine awTree.tk ?_ | refine awTree.fA ?_ ?_ | exact awTree.dn)
   case rest7 =>
   refine wk ?_
   trivial
  ·intro h9
   simp at h9
theorem c_ascii_unpacked (gl : List (Nat × AV)) (s : List UInt8) (most : Int) (f : FuncId) (u : Nat → List UInt8 × AErr) (hu : ∀ M : Nat,M ≤ 1048576 → FnK Tryd.prog gl f [.str s,.ptr 0 0] [(0,.cells [.row 1 0 0,.int .i64 M]),(1,.row 1 [] true)] 2 1 (fun r h n=>((u M).2 = .ok ∧ r = .ret (.tup []) ∧ h = [(0,.cells [.row 1 0 (u M).1.length,.int .i64 M]),(1,.row 1 (bytesAV (u M).1) true)] ∧ n = 2) ∨ (¬ (u M).2 = .ok ∧ r = .panic (.iface 70 (.agg [.int .i64 (errI (u M).2)])) ∧ 1 ≤ n))) (hu0 : ∀ M,¬ (u M).2 = .ok → (u M).1 = []) : FnP Tryd.prog (gl) 20 [.str s,.int .i64 most,.clos f []] fun r=>r = .ret (.tup [.str (if most < 0 then ([],AErr.arg) else u (min most.toNat 1048576)).1,.int .i64 (errI (if most < 0 then ([],AErr.arg) else u (min most.toNat 1048576)).2)]):=by
 refine FnP.introD Tryd.func20 rfl rfl (by simp [Tryd.ntmps20]) ?_
 simp only [argEnv,Tryd.ntmps20]
 refine AW.rS ?_
 refine AW.df ?_
 refine AW.rSC ?_
 refine awOps.cons (awGuard.cM (c_ascii_need _ _ 1) ?_ ?_)
 ·intro hp4
  refine finD_pan ?_
  refine LeaveS.c1 [0,1] (d_unpacked_pan _ _) ?_
  refine LeaveS.rt Tryd.results20 ?_
  rw [if_pos hp4]
  rfl
 intro hm4
 refine awOps.rn ?_
 refine AW.rS ?_
 rw [show min most 1048576 = ((min most.toNat 1048576 : Nat) : Int) by omega]
 refine AW.pre (St.le.nilcell 2 0 1 rfl rfl) ?_
 refine AW.rSC ?_
 refine awOps.cons (awGuard.cKM 1 [2,3] (hu (min most.toNat 1048576) (Nat.min_le_right ..)) ?_ ?_)
 ·intro hp8 n8 hn8
  refine finD_pan ?_
  refine LeaveS.c1 [0,1] (d_unpacked_pan _ _) ?_
  refine LeaveS.rt Tryd.results20 ?_
  rw [if_neg (by omega),hu0 _ hp8]
 intro hm8
 refine awOps.rn ?_
 refine AW.rS ?_
 refine AW.ret ?_
 simp only [finD_ret]
 refine LeaveS.c1 [0,1] (d_unpacked_ret _ _ 0) ?_
 refine LeaveS.rt Tryd.results20 ?_
 rw [if_neg (by omega),hm8]
 rfl
theorem c_ascii_Unhex (gl : List (Nat × AV)) (s : List UInt8) (most : Int) (hs : s.length ≤ 16777216) : FnP Tryd.prog (gl) 8 [.str s,.int .i64 most] fun r=>r = .ret (.tup [.str (unhexD s most).1,.int .i64 (errI (unhexD s most).2)]):=by
 refine FnP.intro Tryd.func8 rfl rfl (by simp [Tryd.ntmps8]) ?_
 simp only [argEnv,Tryd.ntmps8,Tryd.results8]
 refine AW.rS ?_
 refine AW.rSC ?_
 refine awOps.cons (awGuard.c1 (c_ascii_unpacked _ s most _ (fun M=>unhexS M s none []) (fun M hM=>h_Unhex1 _ s M hs hM) (fun M=>ux_fail M s none [])) ?_)
 refine awOps.rn ?_
 refine AW.rt ?_
 rfl
end Go.Proofs

namespace Aw
open Go
theorem lit_step {t : Byt} {k : Nat} (h1 : k < 128) (h2 : k < t.length) (h3 : alikeN (t.drop k) < 3) : litGo (t.drop k) k = litGo (t.drop (k + 1)) (k + 1):=by
 have e:=s_drop t k h2
 rw [e] at h3 ⊢
 conv=>lhs; unfold litGo
 rw [if_neg (by omega),if_pos h3]
theorem lit_end {t : Byt} {k : Nat} (h : ¬ (k < 128 ∧ k < t.length ∧ alikeN (t.drop k) < 3)) : litGo (t.drop k) k = k:=by
 by_cases h2 : k < t.length
 ·have e:=s_drop t k h2
  rw [e] at h ⊢
  conv=>lhs; unfold litGo
  by_cases h1 : 128 ≤ k
  ·rw [if_pos h1]
  ·rw [if_neg h1,if_neg (fun q=>h ⟨by omega,h2,q⟩)]
 ·rw [List.drop_eq_nil_of_le (by omega)]
  unfold litGo
  rfl
theorem lit_one {t : Byt} (h : t ≠ []) (h3 : alikeN t < 3) : litGo (t.drop 1) 1 = litGo t 0:=by
 have hl : 0 < t.length:=List.length_pos_iff.2 h
 have:=lit_step (t:=t) (k:=0) (by decide) hl (by rw [List.drop_zero]; exact h3)
 rw [List.drop_zero] at this
 exact this.symm
theorem run_many {t : Byt} (h : t ≠ []) (h3 : 3 ≤ alikeN t) : runB t = UInt8.ofNat (257 - alikeN t) :: t.getD 0 0 :: runB (t.drop (alikeN t)):=by
 cases t with
 | nil=>exact absurd rfl h
 | cons c t=>rw [runB_many h3] <;> rfl
theorem run_few {t : Byt} {n : Nat} (h : t ≠ []) (h3 : ¬ 3 ≤ alikeN t) (hn : litGo t 0 = n) : runB t = UInt8.ofNat (n - 1) :: (t.take n ++ runB (t.drop n)):=by
 subst hn
 cases t with
 | nil=>exact absurd rfl h
 | cons c t=>rw [runB_few h3]
theorem runB_bound (s : Byt) : (runB s).length ≤ s.length + (s.length + 127) / 128:=(runB_len s.length s (Nat.le_refl _)).1
theorem u8_ofNat {n : Nat} (h : n < 256) : (UInt8.ofNat n).toNat = n:=by
 rw [UInt8.toNat_ofNat']
 exact Nat.mod_eq_of_lt h
end Aw
