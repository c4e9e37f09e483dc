/- A part of the proof: contracts of functions and what they stand on. Written shorter and merged by a program (pack.py). -/
import Derived.Test.YtcebndkiagbddaaGreatDoorK22
set_option linter.unusedVariables false
set_option linter.unusedSimpArgs false
set_option maxRecDepth 100000
set_option maxHeartbeats 4000000
open Nat renaming le_of_ble_eq_true -> Qxo, mod_eq_of_lt -> Qxs
open UInt32 renaming ofNat -> Qxp
open List renaming length_append -> Qxq, length_cons -> Qxr, length_nil -> Qxt
namespace Go.Proofs.YtcebndkiagbddaaGreatDoor
section
open Go.RowKit Go.Lib
def byA (a:Nat):Nat->Nat
 | 0=>a / 16777216 % 256
 | 1=>a / 65536 % 256
 | 2=>a / 256 % 256
 | _=>a % 256
theorem Ja (a i:Nat):byA a i < 256:=by
 unfold byA;split <;> exact Nat.mod_lt _ (by decide)
theorem QwZ (c:UInt32):(c &&& Qxp 255).toNat=c.toNat % 256:=by
 rw [UInt32.toNat_and,show (Qxp 255).toNat=2 ^ 8 - 1 from rfl,Nat.and_two_pow_sub_one_eq_mod]
theorem QuS (c:UInt32) (n:Nat):(QhC c n).toNat=c.toNat / 2 ^ n:=by
 show (c.toNat >>> n) % 2 ^ 32=_;rw [Nat.shiftRight_eq_div_pow];exact Qxs (Nat.lt_of_le_of_lt (Nat.div_le_self _ _) (by have:=c.toNat_lt;omega))
theorem Qcd (a:UInt32) (n:Nat) {k:Nat} (h:byA a.toNat k=a.toNat / 2 ^ n % 256):(((QhC a n &&& Qxp 255).toNat:Nat):Int)=(byA a.toNat k:Int):=by
 rw [QwZ,QuS,h]
def quad (a:Nat):List (List UInt8):=[decDigits (byA a 0),decDigits (byA a 1),decDigits (byA a 2),decDigits (byA a 3)]
theorem Qm3 (a:Nat):∀ i,i < 4 -> ∀ j,j < 1->(fun u (v:Nat)=>EV.s (decDigits (byA a u))) i j=(fun u v=>EV.s ((quad a).getD u [])) i j:=by
 intro i hi j hj
 match i,hi with
 | 0,_=>rfl
 | 1,_=>rfl
 | 2,_=>rfl
 | 3,_=>rfl
theorem Qjl {a:UInt32}:Cf Tryz.prog 214 [] [.u32 a] [] (.s (Y1 a.toNat)):=by
 have hjl:=V7 a.toNat;have hJ:=QgU (L:=quad a.toNat) (sep:=[46]) (show 4<=1100000 by decide) (show (Y1 a.toNat).length<=1100000 by omega);refine Qr {nl:=[(3,9,1)]} Tryz.func214 Tryz.ntmps214 ?_;refine ⟨Nat,fun k=>⟨[(0,.u32 a),(3,.osl 1003 k),(4,.i (24 - 8 * (k:Int)))],[(1003,.rz k 1 (fun u v=>.s (decDigits (byA a.toNat u))) 9 0)]⟩,fun k=>k<=4,fun k=>4 - k,0,by omega,?_,fun k hx1=>?_⟩
 ·skip
  repeat refine o17 ?_
  trivial
 refine ⟨fun h1=>?_,fun h1=>?_⟩
 ·skip
  have c1:=h1
  (simp only [bsX] at c1)
  have hk:k < 4:=by omega
  rcases (by omega:k=0\/k=1\/k=2\/k=3) with rfl | rfl | rfl | rfl
  ·skip
   repeat refine o4 ?_
   refine clX (Zz (u:=byA a.toNat 0) (Qcd a (24 - 8 * 0) (by rfl)) (by have:=Ja a.toNat 0;omega)) ?_
   repeat refine o20 ?_
   refine ⟨0+1,(by assumption),(by (exact Qxo rfl)),?_⟩
   repeat refine o21 ?_
   trivial
  ·skip
   repeat refine o4 ?_
   refine clX (Zz (u:=byA a.toNat 1) (Qcd a (24 - 8 * 1) (by rfl)) (by have:=Ja a.toNat 1;omega)) ?_
   repeat refine o20 ?_
   refine ⟨1+1,(by assumption),(by (exact Qxo rfl)),?_⟩
   repeat refine o21 ?_
   trivial
  ·skip
   repeat refine o4 ?_
   refine clX (Zz (u:=byA a.toNat 2) (Qcd a (24 - 8 * 2) (by rfl)) (by have:=Ja a.toNat 2;omega)) ?_
   repeat refine o20 ?_
   refine ⟨2+1,(by assumption),(by (exact Qxo rfl)),?_⟩
   repeat refine o21 ?_
   trivial
  ·skip
   repeat refine o4 ?_
   refine clX (Zz (u:=byA a.toNat 3) (Qcd a (24 - 8 * 3) (by simp [byA])) (by have:=Ja a.toNat 3;omega)) ?_
   repeat refine o20 ?_
   refine ⟨3+1,(by assumption),(by (exact Qxo rfl)),?_⟩
   repeat refine o21 ?_
   trivial
 ·skip
  have c1:=h1
  (simp only [bsX] at c1)
  have hk:k=4:=by have:k<=4:=hx1;omega
  subst hk;refine clX hJ ?_
  repeat (refine Ob.mk ?_ ?_;focus (first | (exact Qm3 _) | (exact Eq.refl _)))
  trivial
theorem Qle {p:List Bool} (hp:p.length<=32):Cf Tryz.prog 199 [] [We p] [] (.tup [.s (QbG p),.i 0]):=by
 have hA:=Qjl (a:=adr p);rw [QW] at hA;have hI:=Zz (u:=p.length) (n:=(p.length:Int)) rfl (by omega);have hT:=V7 (QN p);have hD:=Jp (u:=p.length) (by omega);refine QJ {} Tryz.func199 Tryz.ntmps199 ?_;refine clX (Wh hp) ?_
 repeat refine o0 ?_
 refine ⟨fun h1=>?_,fun h1=>?_⟩
 ·skip
  (simp only [Int.reduceToNat,UInt8.reduceOfNat] at h1)
  exact absurd (show false=true from h1) (by decide)
 ·skip
  (simp only [Int.reduceToNat,UInt8.reduceOfNat] at h1)
  refine ⟨[0,1,3,7,0,16,55,127,255,511],by kernel_rfl,?_⟩;refine clX hA ?_
  repeat (refine Ob.mk ?_ ?_;focus (first | (simp only [Qxq,Qxr,Qxt];omega) | (exact Eq.refl _)))
  refine clX hI ?_
  repeat (refine Ob.mk ?_ ?_;focus (first | (show Y1 (QN p)++[47]++decDigits p.length=Y1 (QN p)++47::decDigits p.length;rw [List.append_assoc];rfl) | (simp only [Qxq,Qxr,Qxt];omega) | (exact Eq.refl _)))
  trivial
theorem Qlf {a:UInt32} {n:Nat} (hp:n<=65536):Cf Tryz.prog 74 [] [.agg [.u32 a,.i (n:Int)]] [] (.s (Y1 a.toNat++47::decDigits n)):=by
 have hjl:=V7 a.toNat;have hJ:=QgU (L:=quad a.toNat) (sep:=[46]) (show 4<=1100000 by decide) (show (Y1 a.toNat).length<=1100000 by omega);have hI:=Zz (u:=n) (n:=(n:Int)) rfl (by omega);have hD:=Jp (u:=n) (by omega);refine QJ {nl:=[(3,9,1)]} Tryz.func74 Tryz.ntmps74 ?_;refine ⟨Nat,fun k=>⟨[(1,.own 1001 0),(3,.osl 1003 k),(4,.i (24 - 8 * (k:Int)))],[(1001,.box [.u32 a,.i (n:Int)] 36),(1003,.rz k 1 (fun u v=>.s (decDigits (byA a.toNat u))) 9 0)]⟩,fun k=>k<=4,fun k=>4 - k,0,by omega,?_,fun k hx1=>?_⟩
 ·skip
  repeat refine o17 ?_
  trivial
 refine ⟨fun h1=>?_,fun h1=>?_⟩
 ·skip
  have c1:=h1
  (simp only [bsX] at c1)
  have hk:k < 4:=by omega
  rcases (by omega:k=0\/k=1\/k=2\/k=3) with rfl | rfl | rfl | rfl
  ·skip
   repeat refine o4 ?_
   refine clX (Zz (u:=byA a.toNat 0) (Qcd a (24 - 8 * 0) (by rfl)) (by have:=Ja a.toNat 0;omega)) ?_
   repeat refine o20 ?_
   refine ⟨0+1,(by assumption),(by (exact Qxo rfl)),?_⟩
   repeat refine o21 ?_
   trivial
  ·skip
   repeat refine o4 ?_
   refine clX (Zz (u:=byA a.toNat 1) (Qcd a (24 - 8 * 1) (by rfl)) (by have:=Ja a.toNat 1;omega)) ?_
   repeat refine o20 ?_
   refine ⟨1+1,(by assumption),(by (exact Qxo rfl)),?_⟩
   repeat refine o21 ?_
   trivial
  ·skip
   repeat refine o4 ?_
   refine clX (Zz (u:=byA a.toNat 2) (Qcd a (24 - 8 * 2) (by rfl)) (by have:=Ja a.toNat 2;omega)) ?_
   repeat refine o20 ?_
   refine ⟨2+1,(by assumption),(by (exact Qxo rfl)),?_⟩
   repeat refine o21 ?_
   trivial
  ·skip
   repeat refine o4 ?_
   refine clX (Zz (u:=byA a.toNat 3) (Qcd a (24 - 8 * 3) (by simp [byA])) (by have:=Ja a.toNat 3;omega)) ?_
   repeat refine o20 ?_
   refine ⟨3+1,(by assumption),(by (exact Qxo rfl)),?_⟩
   repeat refine o21 ?_
   trivial
 ·skip
  have c1:=h1
  (simp only [bsX] at c1)
  have hk:k=4:=by have:k<=4:=hx1;omega
  subst hk;refine ⟨[0,1,3,0,8,27,63,127],by kernel_rfl,?_⟩;refine clX hJ ?_
  repeat (refine Ob.mk ?_ ?_;focus (first | (exact Qm3 _) | (show (Y1 a.toNat).length+1<=_;omega) | (exact Eq.refl _)))
  refine clX hI ?_
  repeat (refine Ob.mk ?_ ?_;focus (first | (show Y1 a.toNat++[47]++decDigits n=Y1 a.toNat++47::decDigits n;rw [List.append_assoc];rfl) | (show (Y1 a.toNat++[47]).length+(decDigits n).length<=_;simp only [Qxq,Qxr,Qxt];omega) | (exact Eq.refl _)))
  trivial
theorem ZM {p:List Bool} (hp:p.length<=32):Cf Tryz.prog 74 [] [We p] [] (.s (QbG p)):=by
 have:=Qlf (a:=adr p) (n:=p.length) (by omega);rw [QW] at this;exact this
theorem Qet {a:UInt32} {n:Int}:Cf Tryz.prog 58 [] [.agg [.u32 a,.i n]] [] (.i (WO a.toNat n)) :=
 Cf.ofV (by kernel_rfl) (fun _ _ _=>ra_i) fun w Pub φ vs hp hR=>by
  obtain ⟨u,rfl,h1⟩:=ra1 hR;rw [Qvv (k:=(a,n)) h1];exact ZY _ _ _ w a.toNat_lt (Lib.hid rfl)
theorem QuT {s:List UInt8} (h:(((47:UInt8) ∉ s\/(Zt (bef 47 s)).2≠0)\/nbE (aft 47 s) 32≠0)):JE s=([],3):=by
 unfold JE;refine if_neg fun ⟨k1,k2,k3,k4⟩=>?_;have n1:nbE (aft 47 s) 32=0:=by unfold nbE;rw [if_pos k3]
 rcases h with (h | h) | h
 ·exact h k1
 ·exact h k2
 ·exact h n1
theorem QrQ {s:List UInt8} (h:¬ (((47:UInt8) ∉ s\/(Zt (bef 47 s)).2≠0)\/nbE (aft 47 s) 32≠0)):(47:UInt8)∈s/\(Zt (bef 47 s)).2=0/\smE (aft 47 s) 32=true/\nbN (aft 47 s) 32=(QM 0 (aft 47 s):Int)/\QM 0 (aft 47 s)<=32/\(Zt (bef 47 s)).1 < 4294967296:=by
 rw [not_or,not_or] at h;obtain ⟨⟨h1,h2⟩,h3⟩:=h
 have n3:smE (aft 47 s) 32=true:=by
  cases q:smE (aft 47 s) 32 with
  | true=>rfl
  | false=>exact absurd (by unfold nbE at h3;rw [q] at h3;exact absurd (by decide) h3) h3
 have n2:nbN (aft 47 s) 32=smN (aft 47 s):=by unfold nbN;rw [if_pos n3]
 obtain ⟨k1,k2,k3⟩:=JK n3;have h2':=Decidable.not_not.1 h2;exact ⟨Decidable.not_not.1 h1,h2',n3,by rw [n2,k2],by omega,(Qfs h2').2⟩
theorem QuU {a n:Nat} (ha:a < 4294967296) (hn:n<=32) (h:WO (Qxp a).toNat (n:Int)≠0):Zl a n≠a:=fun e=>h (WL.2 ⟨by omega,by omega,by
 have:(Qxp a).toNat=a:=Qxs (by omega)
 rw [this,Int.toNat_natCast,<- e];exact QaJ _ _⟩)
theorem QuV {a n:Nat} (ha:a < 4294967296) (hn:n<=32) (h:WO (Qxp a).toNat (n:Int)=0):Zl a n=a/\EV.agg [.u32 (Qxp a),.i (n:Int)]=We (YB a n):=by
 have v:=WL.1 h;have e:(Qxp a).toNat=a:=Qxs (by omega);have m:=v.2.2;rw [e,Int.toNat_natCast] at m;refine ⟨V2 m,?_⟩;have k:=QqB (Qxp a) hn v;rw [e] at k;show _=EV.agg [.u32 (adr (YB a n)),.i ((YB a n).length:Int)];rw [k,Yb]
theorem Qjm {s:List UInt8} (hl:s.length<=1100000):Cf Tryz.prog 163 [] [.s s] [] (.tup [We (JE s).1,.i (JE s).2]):=by
 have hb:=Qd6 47 s
 have ha:(aft 47 s).length<=s.length:=by
  by_cases h:(47:UInt8)∈s
  ·have:=congrArg List.length (Xm h);rw [Qxq,Qxr] at this;omega
  ·rw [QcC h];simp
 refine Qr {} Tryz.func163 Tryz.ntmps163 ?_;refine clX (QgV (l:=s) (c:=47) hl) ?_
 repeat refine o0 ?_
 refine clX (Qcc (s:=bef 47 s) (by omega)) ?_
 repeat refine o0 ?_
 refine clX (Js (s:=aft 47 s) (most:=32) (by omega)) ?_
 repeat refine o15 ?_
 refine ⟨fun h1=>?_,fun h1=>?_⟩
 ·skip
  have hR:=QuT (s:=s) (by simpa using h1)
  repeat refine o57 ?_
  trivial
 ·skip
  obtain ⟨y1,y2,y3,y4,y5,y6⟩:=QrQ (s:=s) (by simpa using h1);have hC:=Qet (a:=Qxp (Zt (bef 47 s)).1) (n:=nbN (aft 47 s) 32);refine clX hC ?_
  repeat refine o0 ?_
  refine ⟨fun h2=>?_,fun h2=>?_⟩
  ·skip
   have hz:WO (Qxp (Zt (bef 47 s)).1).toNat ((QM 0 (aft 47 s):Nat):Int)≠0:=by rw [<- y4];simpa using h2
   have hR:JE s=([],3):=by unfold JE;exact if_neg fun q=>QuU y6 y5 hz q.2.2.2
   repeat refine o57 ?_
   trivial
  ·skip
   have hz:WO (Qxp (Zt (bef 47 s)).1).toNat ((QM 0 (aft 47 s):Nat):Int)=0:=by rw [<- y4];simpa using h2
   obtain ⟨hcut,hnet⟩:=QuV y6 y5 hz;have hR:JE s=(YB (Zt (bef 47 s)).1 (QM 0 (aft 47 s)),0):=by unfold JE;exact if_pos ⟨y1,y2,y3,hcut⟩
   have hn1:adr (JE s).1=Qxp (Zt (bef 47 s)).1:=by rw [hR];have:=EV.agg.inj hnet;simp at this;exact this.1.symm
   have hn2:(((JE s).1.length:Nat):Int)=nbN (aft 47 s) 32:=by rw [hR,y4,Yb]
   repeat (refine Ob.mk ?_ ?_;focus (first | (rw [hR];done) | (exact hn1.symm) | (exact hn2.symm)))
   trivial
end
end Go.Proofs.YtcebndkiagbddaaGreatDoor
