/- A part of the proof: contracts of functions and what they stand on. Written shorter and merged by a program (pack.py). -/
import Derived.Test.YtcebndkiagbddaaGreatDoorK20
set_option linter.unusedVariables false
set_option linter.unusedSimpArgs false
set_option maxRecDepth 100000
set_option maxHeartbeats 4000000
open UInt32 renaming ofNat -> Qxo
open Nat renaming mod_eq_of_lt -> Qxp, pow_le_pow_right -> Qxu
open List renaming length_append -> Qxq, getElem?_eq_getElem -> Qxr, length_cons -> Qxs, take_length -> Qxt
namespace Go.Proofs.YtcebndkiagbddaaGreatDoor
section
open Go.RowKit Go.Lib
theorem Qrd {s:List UInt8} (h:((s.length:Int) < 1\/5 < (s.length:Int))\/(1 < (s.length:Int)/\s.getD 0 0=48)):¬ Vw s:=fun ⟨k1,k2,k3,_⟩=>by
 rcases h with (h | h) | ⟨h,h2⟩
 ·omega
 ·omega
 ·exact k3 (by omega) h2
theorem Qog {s:List UInt8} (h:¬ (((s.length:Int) < 1\/5 < (s.length:Int))\/(1 < (s.length:Int)/\s.getD 0 0=48))):1<=s.length/\s.length<=5/\(1 < s.length->s.getD 0 0≠48):=by
 rw [not_or,not_or,not_and] at h;exact ⟨by omega,by omega,fun k=>h.2 (by omega)⟩
theorem QvA {s:List UInt8} {most:Int} (h:¬ Vw s):smN s=0/\smE s most=false:=by
 unfold smN smE;rw [if_neg h,if_neg h];exact ⟨rfl,rfl⟩
theorem Quu {s:List UInt8} {i:Nat} (hi:i < s.length) (h:isD (s.getD i 0)=false):¬ Vw s:=fun ⟨_,_,_,k⟩=>by
 rw [List.all_eq_true] at k;rw [k _ (Qd7 hi)] at h;cases h
theorem QwH {c:UInt8} (h:c.toNat < 48\/57 < c.toNat):isD c=false:=by
 unfold isD;rcases h with k | k
 ·rw [decide_eq_false (by omega:¬ 48<=c.toNat)];rfl
 ·rw [decide_eq_false (by omega:¬ c.toNat<=57),Bool.and_false]
theorem Quv {c:UInt8} (h:¬ (c.toNat < 48\/57 < c.toNat)):isD c=true:=by
 unfold isD;rw [decide_eq_true (by omega:48<=c.toNat),decide_eq_true (by omega:c.toNat<=57)];rfl
theorem Qre {s:List UInt8} {i:Nat} (hi:i < s.length) (h:isD (s.getD i 0)=true):10 * ((QM 0 (s.take i):Nat):Int)+(((s.getD i 0) - UInt8.ofNat 48).toNat:Int)=((QM 0 (s.take (i+1)):Nat):Int):=by
 have e:s.take (i+1)=s.take i++[s.getD i 0]:=by
  rw [List.take_add_one,Qxr hi,List.getD_eq_getElem?_getD,Qxr hi];rfl
 have k:48<=(s.getD i 0).toNat:=by unfold isD at h;rw [Bool.and_eq_true,decide_eq_true_eq] at h;exact h.1
 have k2:(s.getD i 0 - UInt8.ofNat 48).toNat=(s.getD i 0).toNat - 48:=UInt8.toNat_sub_of_le _ _ (by rw [UInt8.le_iff_toNat_le];exact k);rw [e,QiO,YN,XY,k2];omega
theorem Qrf {s:List UInt8} {i:Nat} (h:(s.take i).all isD=true) (hi:i<=5):QM 0 (s.take i) < 100000:=by
 have a:=QmG (s.take i) 0 h;have b:10 ^ (s.take i).length<=10 ^ 5:=Qxu (by decide) (by rw [List.length_take];omega);omega
theorem Qi5 {s:List UInt8} {most:Int} (hs:s.length<=1100000):Cf Tryz.prog 184 [] [.s s,.i most] [] (.tup [.i (smN s),.b (smE s most)]):=by
 refine Qr {} Tryz.func184 Tryz.ntmps184 ?_
 repeat (refine Ob.mk ?_ ?_;focus (first | (exact fun hg=>Yz hg) | (exact fun hg=>hg) | (intro hg;first | (intro hq;exact QlE hg (ZQ hq)) | (simp at hg;omega))))
 refine ⟨fun h1=>?_,fun h1=>?_⟩
 ·skip
  (simp only [Int.reduceToNat,UInt8.reduceOfNat] at h1)
  have c1:=h1
  (simp only [bsX] at c1)
  have hR:=QvA (most:=most) (Qrd (s:=s) (by simpa using h1))
  repeat refine o25 ?_
  trivial
 ·skip
  (simp only [Int.reduceToNat,UInt8.reduceOfNat] at h1)
  have c1:=h1
  (simp only [bsX] at c1)
  have hG:=Qog (s:=s) (by simpa using h1);refine ⟨Nat,fun i=>⟨[(0,.s s),(1,.i most),(6,.i (QM 0 (s.take i):Nat)),(27,.i (s.length:Int)),(28,.i (i:Int))],[]⟩,fun i=>i<=s.length/\(s.take i).all isD=true,fun i=>s.length - i,0,(by simp),?_,fun i hx1=>?_⟩
  ·skip
   repeat refine o0 ?_
   trivial
  refine ⟨fun h2=>?_,fun h2=>?_⟩
  ·skip
   have c2:=h2
   (simp only [bsX] at c2)
   have hi:i < s.length:=by omega
   repeat refine o68 ?_
   refine ⟨fun h3=>?_,fun h3=>?_⟩
   ·skip
    (simp only [Int.reduceToNat,UInt8.reduceOfNat] at h3)
    have c3:=h3
    (simp only [bsX] at c3)
    have hR:=QvA (most:=most) (Quu hi (QwH (by simpa using h3)))
    repeat refine o25 ?_
    trivial
   ·skip
    (simp only [Int.reduceToNat,UInt8.reduceOfNat] at h3)
    have c3:=h3
    (simp only [bsX] at c3)
    have hD:isD (s.getD i 0)=true:=Quv (by simpa using h3);have hV:=Qre hi hD;have hA:=Qd8 hi hx1.2 hD;have hB:=Qrf hx1.2 (by omega);have hB2:=Qrf hA (by omega)
    repeat (refine Ob.mk ?_ ?_;focus (first | (have:=hV;omega) | (simp_all;omega)))
    refine ⟨i+1,(by (simp_all;omega)),(by (simp only [SrcE.len,Nat.zero_add,Qxq,Qxs,List.length_nil];omega)),?_⟩
    repeat (refine Ob.mk ?_ ?_;focus (first | (have:=hV;omega) | (exact Eq.refl _) | assumption))
    trivial
  ·skip
   have c2:=h2
   (simp only [bsX] at c2)
   have hi:i=s.length:=by have:=hx1.1;omega
   subst hi;have hA:=hx1.2;rw [Qxt] at hA;have hN:Vw s:=⟨hG.1,hG.2.1,hG.2.2,hA⟩;have hZ:smN s=((QM 0 s:Nat):Int)/\smE s most=decide (((QM 0 s:Nat):Int)<=most):=by unfold smN smE;rw [if_pos hN,if_pos hN];exact ⟨rfl,rfl⟩
   repeat (refine Ob.mk ?_ ?_;focus (first | (rw [hZ.1,Qxt];done) | (rw [hZ.2,Qxt];done)))
   trivial
def nbN (s:List UInt8) (most:Int):Int:=if smE s most=true then smN s else 0
def nbE (s:List UInt8) (most:Int):Int:=if smE s most=true then 0 else 3
theorem Js {s:List UInt8} {most:Int} (hs:s.length<=1100000):Cf Tryz.prog 149 [] [.s s,.i most] [] (.tup [.i (nbN s most),.i (nbE s most)]):=by
 refine Qr {} Tryz.func149 Tryz.ntmps149 ?_;refine clX (Qi5 (s:=s) (most:=most) hs) ?_
 repeat refine o0 ?_
 refine ⟨fun h1=>?_,fun h1=>?_⟩
 ·skip
  have hR:nbN s most=0/\nbE s most=3:=by unfold nbN nbE;rw [if_neg (by simpa using h1),if_neg (by simpa using h1)];exact ⟨rfl,rfl⟩
  repeat refine o25 ?_
  trivial
 ·skip
  have hR:nbN s most=smN s/\nbE s most=0:=by unfold nbN nbE;rw [if_pos (by simpa using h1),if_pos (by simpa using h1)];exact ⟨rfl,rfl⟩
  repeat refine o25 ?_
  trivial
def adA (L:List (List UInt8)):Nat->Nat
 | 0=>0
 | i+1=>adA L i * 256+QM 0 (L.getD i [])
theorem Qrg {L:List (List UInt8)}:∀ {i:Nat},(∀ j,j < i->smE (L.getD j []) 255=true)->adA L i < 256 ^ i
 | 0,_=>by show (0:Nat) < 256 ^ 0;decide
 | i+1,h=>by
  have a:=Qrg (i:=i) fun j hj=>h j (by omega);have b:=(JK (h i (by omega))).2.2;show adA L i * 256+QM 0 (L.getD i []) < 256 ^ (i+1);rw [Nat.pow_succ];omega
theorem Quw {s:List UInt8} (h:(spl 46 s).length≠4):Zt s=(0,3):=by
 unfold Zt;split
 ·rename_i a b c d e;rw [e] at h;exact absurd rfl h
 ·rfl
theorem Qux {s:List UInt8} {i:Nat} (h4:(spl 46 s).length=4) (hi:i < 4) (h:smE ((spl 46 s).getD i []) 255=false):Zt s=(0,3):=by
 unfold Zt;split
 ·rename_i a b c d e
  rw [e] at h;refine if_neg fun k=>?_
  match i,hi with
  | 0,_=>exact absurd (k.1.symm.trans h) (by decide)
  | 1,_=>exact absurd (k.2.1.symm.trans h) (by decide)
  | 2,_=>exact absurd (k.2.2.1.symm.trans h) (by decide)
  | 3,_=>exact absurd (k.2.2.2.symm.trans h) (by decide)
 ·rfl
theorem Qrh {s:List UInt8} (h4:(spl 46 s).length=4) (h:∀ j,j < 4->smE ((spl 46 s).getD j []) 255=true):Zt s=(adA (spl 46 s) 4,0):=by
 unfold Zt;split
 ·rename_i a b c d e
  rw [e] at h ⊢;rw [if_pos ⟨h 0 (by decide),h 1 (by decide),h 2 (by decide),h 3 (by decide)⟩];refine Prod.ext ?_ rfl;show ((QM 0 a * 256+QM 0 b) * 256+QM 0 c) * 256+QM 0 d=(((0 * 256+QM 0 a) * 256+QM 0 b) * 256+QM 0 c) * 256+QM 0 d;omega
 ·rename_i e
  exfalso
  match q:spl 46 s,h4 with
  | [a,b,c,d],_=>exact e a b c d q
theorem QwI {x n:Nat} (hx:x < 16777216) (hn:n < 256):Qpv (Qxo x) 8 ||| Qxo n=Qxo (x * 256+n):=by
 apply UInt32.toNat_inj.1;have e1:(Qxo x).toNat=x:=by show x % 2 ^ 32=x;exact Qxp (by omega)
 have e2:(Qxo n).toNat=n:=by show n % 2 ^ 32=n;exact Qxp (by omega)
 have e3:(Qxo (x * 256+n)).toNat=x * 256+n:=by show _ % 2 ^ 32=_;exact Qxp (by omega)
 rw [UInt32.toNat_or,e2,e3];show (((Qxo x).toNat <<< 8) % 2 ^ 32) ||| n=_;rw [e1,Nat.shiftLeft_eq,Qxp (by omega)];have:=Nat.shiftLeft_add_eq_or_of_lt (i:=8) (b:=n) (by omega:n < 2 ^ 8) x;rw [Nat.shiftLeft_eq] at this;rw [<- this]
theorem Qcc {s:List UInt8} (hl:s.length<=1100000):Cf Tryz.prog 148 [] [.s s] [] (.tup [.u32 (Qxo (Zt s).1),.i (Zt s).2]):=by
 refine Qr {} Tryz.func148 Tryz.ntmps148 ?_;refine clX (QiX (l:=s) (c:=46) hl) ?_
 repeat refine o0 ?_
 refine ⟨fun h1=>?_,fun h1=>?_⟩
 ·skip
  have c1:=h1
  (simp only [bsX] at c1)
  have hR:=Quw (s:=s) (by omega)
  repeat refine o18 ?_
  trivial
 ·skip
  have c1:=h1
  (simp only [bsX] at c1)
  have h4:(spl 46 s).length=4:=by omega
  refine ⟨Nat,fun i=>⟨[(5,.u32 (Qxo (adA (spl 46 s) i))),(15,QdX (spl 46 s)),(16,.i ((spl 46 s).length:Int)),(17,.i (i:Int))],[]⟩,fun i=>i<=(spl 46 s).length /\ ∀ j,j < i->smE ((spl 46 s).getD j []) 255=true,fun i=>(spl 46 s).length - i,0,⟨Nat.zero_le _,fun j h=>absurd h (Nat.not_lt_zero j)⟩,?_,fun i hx1=>?_⟩
  ·skip
   repeat refine o10 ?_
   trivial
  refine ⟨fun h2=>?_,fun h2=>?_⟩
  ·skip
   have c2:=h2
   (simp only [bsX] at c2)
   have hi:i < (spl 46 s).length:=by omega
   have hpl:=QqP (c:=46) (l:=s) i
   repeat refine o3 ?_
   refine clX (Qi5 (s:=(spl 46 s).getD i []) (most:=255) (by omega)) ?_
   repeat refine o0 ?_
   refine ⟨fun h3=>?_,fun h3=>?_⟩
   ·skip
    have c3:=h3
    (simp only [bsX] at c3)
    have hR:=Qux h4 (by omega) (i:=i) (by simpa using h3)
    repeat refine o18 ?_
    trivial
   ·skip
    have c3:=h3
    (simp only [bsX] at c3)
    have hE:smE ((spl 46 s).getD i []) 255=true:=by simpa using h3
    obtain ⟨hn1,hn2,hn3⟩:=JK hE
    have hAll:∀ j,j < i+1->smE ((spl 46 s).getD j []) 255=true:=fun j hj=>by
     rcases Nat.lt_or_ge j i with q | q
     ·exact hx1.2 j q
     ·obtain rfl:j=i:=by omega
      exact hE
    have hlt:=Qrg hx1.2;have hp3:256 ^ i<=256 ^ 3:=Qxu (by decide) (by omega);have hor:=QwI (x:=adA (spl 46 s) i) (n:=QM 0 ((spl 46 s).getD i [])) (by omega) (by omega);have hmod:(((QM 0 ((spl 46 s).getD i []):Nat):Int) % 4294967296).toNat=QM 0 ((spl 46 s).getD i []):=by omega
    repeat refine o4 ?_
    refine ⟨i+1,(by (simp_all;omega)),(by (simp only [SrcE.len,Nat.zero_add,Qxq,Qxs,List.length_nil];omega)),?_⟩
    repeat (refine Ob.mk ?_ ?_;focus (first | (show Qpv (Qxo (adA (spl 46 s) i)) 8 ||| Qxo ((smN ((spl 46 s).getD i [])) % 4294967296).toNat=_;rw [hn2,hmod];exact hor) | (exact Eq.refl _) | (intro hg;((intro hq;((simp_all;done)))))))
    trivial
  ·skip
   have c2:=h2
   (simp only [bsX] at c2)
   have hi:i=(spl 46 s).length:=by have:=hx1.1;omega
   have hR:=Qrh h4 (by rw [hi,h4] at hx1;exact hx1.2);have hi4:i=4:=by omega
   subst hi4
   repeat refine o18 ?_
   trivial
def Qi6 (s:List UInt8):Nat×Int:=if Xx s=0 then ((Zt (Qd9 s)).1,smN (Xw s)) else (0,0)
theorem Qri (s:List UInt8):(Qd9 s).length<=s.length/\(Xw s).length<=s.length:=by
 unfold Qd9 Xw;by_cases h:(58:UInt8)∈s
 ·rw [if_pos h,if_pos h];have:=congrArg List.length (Xm h);rw [Qxq,Qxs] at this;omega
 ·rw [if_neg h,if_neg h];simp
theorem Qi7 (s:List UInt8):bef 58 s=Qd9 s/\aft 58 s=Xw s:=by
 unfold Qd9 Xw;by_cases h:(58:UInt8)∈s
 ·rw [if_pos h,if_pos h];exact ⟨rfl,rfl⟩
 ·rw [if_neg h,if_neg h,QgO h,QcC h];exact ⟨rfl,rfl⟩
theorem QwJ {s:List UInt8} (h:(((58:UInt8) ∉ s\/(Zt (Qd9 s)).2≠0)\/nbE (Xw s) 65535≠0)\/nbN (Xw s) 65535=0):Xx s=3/\Qi6 s=(0,0):=by
 have e:Xx s=3:=by
  unfold Xx;refine if_neg fun ⟨k1,k2,k3,k4⟩=>?_;have n1:nbE (Xw s) 65535=0:=by unfold nbE;rw [if_pos k3]
  have n2:nbN (Xw s) 65535=smN (Xw s):=by unfold nbN;rw [if_pos k3]
  rcases h with ((h | h) | h) | h
  ·exact h k1
  ·exact h k2
  ·exact h n1
  ·exact k4 (n2 ▸ h)
 exact ⟨e,by unfold Qi6;rw [e];rfl⟩
theorem Quy {s:List UInt8} (h:¬ ((((58:UInt8) ∉ s\/(Zt (Qd9 s)).2≠0)\/nbE (Xw s) 65535≠0)\/nbN (Xw s) 65535=0)):Xx s=0/\Qi6 s=((Zt (Qd9 s)).1,nbN (Xw s) 65535):=by
 rw [not_or,not_or,not_or] at h;obtain ⟨⟨⟨h1,h2⟩,h3⟩,h4⟩:=h
 have n3:smE (Xw s) 65535=true:=by
  cases q:smE (Xw s) 65535 with
  | true=>rfl
  | false=>exact absurd (by unfold nbE at h3;rw [q] at h3;exact absurd (by decide) h3) h3
 have n2:nbN (Xw s) 65535=smN (Xw s):=by unfold nbN;rw [if_pos n3]
 have e:Xx s=0:=by
  unfold Xx;exact if_pos ⟨Decidable.not_not.1 h1,Decidable.not_not.1 h2,n3,fun q=>h4 (n2.trans q)⟩
 exact ⟨e,by unfold Qi6;rw [if_pos e,n2]⟩
theorem Qrj {s:List UInt8} (hl:s.length<=1100000):Cf Tryz.prog 106 [] [.s s] [] (.tup [.u32 (Qxo (Qi6 s).1),.i (Qi6 s).2,.i (Xx s)]):=by
 have hLn:=Qri s;have hC:=QgV (l:=s) (c:=58) hl;rw [(Qi7 s).1,(Qi7 s).2] at hC;refine Qr {} Tryz.func106 Tryz.ntmps106 ?_;refine clX hC ?_
 repeat refine o0 ?_
 refine clX (Qcc (s:=Qd9 s) (by omega)) ?_
 repeat refine o0 ?_
 refine clX (Js (s:=Xw s) (most:=65535) (by omega)) ?_
 repeat refine o15 ?_
 refine ⟨fun h1=>?_,fun h1=>?_⟩
 ·skip
  have hR:=QwJ (s:=s) (by simpa using h1)
  repeat refine o25 ?_
  trivial
 ·skip
  have hR:=Quy (s:=s) (by simpa using h1)
  repeat refine o25 ?_
  trivial
end
end Go.Proofs.YtcebndkiagbddaaGreatDoor
