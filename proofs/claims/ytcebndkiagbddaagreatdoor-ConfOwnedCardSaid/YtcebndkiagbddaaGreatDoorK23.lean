/- A part of the proof: contracts of functions and what they stand on. Written shorter and merged by a program (pack.py). -/
import Derived.Test.YtcebndkiagbddaaGreatDoorK21
set_option linter.unusedVariables false
set_option linter.unusedSimpArgs false
set_option maxRecDepth 100000
set_option maxHeartbeats 4000000
open List renaming getD_eq_getElem?_getD -> Qxo, length_append -> Qxp, getElem?_append_right -> Qxq, mem_singleton -> Qxr, pairwise_singleton -> Qxs, nodup_append -> Qxt, mem_append -> Qxv, pairwise_cons -> Qxw, mem_cons -> Qxx, append_nil -> Qxy, set_append_right -> QxB, mem_append_left -> QxC, flatMap_append -> QxD
open List.Pairwise renaming nil -> Qxu
open Nat renaming le_refl -> Qxz, blt -> QxE
open List.Perm renaming refl -> QxA
namespace Go.Proofs.YtcebndkiagbddaaGreatDoor
section
open Go.RowKit
def Tr.c:Tr->Option (List PV)
 | .nil=>none
 | .node p o l r=>some (pvL [.u32 (adr p),.i (p.length:Int),.s o,.rp l.c,.rp r.c])
abbrev Yq (p:List Bool) (o:List UInt8) (l r:Tr):EV:=.pp [.u32 (adr p),.i (p.length:Int),.s o,.rp l.c,.rp r.c] 0
def ndC (n:Nd):Nat->EV
 | 0=>.u32 (adr n.p)
 | 1=>.i (n.p.length:Int)
 | 2=>.s n.o
 | _=>.i (n.s:Int)
abbrev ndF (L:List Nd):Nat->Nat->EV:=fun i j=>ndC (L.getD i default) j
abbrev Qj (L:List Nd):EV:=.lz L.length 4 (ndF L)
theorem QV (p:List Bool) (o:List UInt8) (l r:Tr):(Tr.node p o l r).flat.length=1+l.flat.length+r.flat.length:=by
 rw [Tr.flat,List.length_cons,Qxp];omega
theorem QqG {p:List Bool} {o:List UInt8} {l r:Tr} {C X:List EV} (h0:C.getD 0 .any=.u32 (adr p)) (h1:C.getD 1 .any=.i (p.length:Int)) (h2:C.getD 2 .any=.s o)
  (hX:X=[.i ((1+l.flat.length+r.flat.length:Nat):Int)]):∀ i,i < 0+1+l.flat.length+r.flat.length -> ∀ j,j < 4 ->
  stZ (fun i j=>bif i.blt (0+1+l.flat.length) then (fun i j=>bif i.blt (0+1) then C.getD (i * 4+j) .any else ndF l.flat (i - (0+1)) j) i j else ndF r.flat (i - (0+1+l.flat.length)) j) 0 3 X i j=ndF (Tr.node p o l r).flat i j:=by
 intro i hi j hj;have e:(Tr.node p o l r).flat=⟨p,o,l.flat.length+r.flat.length+1⟩::(l.flat++r.flat):=by rw [Tr.flat]
 subst hX;unfold stZ
 cases i with
 | zero =>
  have b:QxE 0 (0+1+l.flat.length)=true:=by rw [Nat.blt_eq];omega
  rw [e]
  match j,hj with
  | 0,_=>simp only [b,cond_true];exact h0
  | 1,_=>simp only [b,cond_true];exact h1
  | 2,_=>simp only [b,cond_true];exact h2
  | 3,_=>show EV.i _=EV.i _;congr 2;show 1+l.flat.length+r.flat.length=l.flat.length+r.flat.length+1;omega
 | succ i =>
  rw [e];show (bif QxE (i+1) (0+1+l.flat.length) then ndF l.flat (i+1 - (0+1)) j else ndF r.flat (i+1 - (0+1+l.flat.length)) j)=ndC ((l.flat++r.flat).getD i default) j;by_cases h:i < l.flat.length
  ·have b:QxE (i+1) (0+1+l.flat.length)=true:=by rw [Nat.blt_eq];omega
   rw [b,Qxo,List.getElem?_append_left h,<- Qxo];rfl
  ·have b:QxE (i+1) (0+1+l.flat.length)=false:=by
    cases hb:QxE (i+1) (0+1+l.flat.length) with
    | false=>rfl
    | true=>rw [Nat.blt_eq] at hb;omega
   rw [b,Qxo,Qxq (by omega),<- Qxo,show i+1 - (0+1+l.flat.length)=i - l.flat.length from by omega];rfl
theorem Qiz  : Cf Tryz.prog 101 [] [.v (.pointer none)] [] (Qj []):=by
 refine QJ {} Tryz.func101 Tryz.ntmps101 ?_;refine ⟨fun h1=>?_,fun h1=>?_⟩
 ·skip
  (simp only [Int.reduceToNat,UInt8.reduceOfNat] at h1)
  have c1:=h1
  repeat refine o0 ?_
  trivial
 ·skip
  have c1:=h1;exact absurd h1 (by decide)
theorem QgB {p:List Bool} {o:List UInt8} {l r:Tr} (il:Cf Tryz.prog 101 [] [.rp l.c] [] (Qj l.flat)) (ir:Cf Tryz.prog 101 [] [.rp r.c] [] (Qj r.flat)) (hl:(Tr.node p o l r).flat.length<=1000000):Cf Tryz.prog 101 [] [Yq p o l r] [] (Qj (Tr.node p o l r).flat):=by
 have fl:=QV p o l r;refine QJ {} Tryz.func101 Tryz.ntmps101 ?_;refine ⟨fun h1=>?_,fun h1=>?_⟩
 ·skip
  have c1:=h1;exact absurd h1 (by decide)
 ·skip
  (simp only [Int.reduceToNat,UInt8.reduceOfNat] at h1)
  have c1:=h1;refine ⟨[0,1,3,7,0,16,48,112,255,511,1023],by kernel_rfl,?_⟩;refine ⟨[0,0,2,6,14,30,62,127,0,256,768,1792,3840,8191,16383,32767],by kernel_rfl,?_⟩
  repeat refine o4 ?_
  refine clX il ?_
  repeat (refine Ob.mk ?_ ?_;focus (first | (simp only [SrcE.len];omega) | (exact Eq.refl _) | omega))
  refine clX ir ?_
  repeat (refine Ob.mk ?_ ?_;focus (first | (simp only [SrcE.len];omega) | (exact QqG rfl rfl rfl rfl) | (exact Eq.refl _) | omega | (exact Nat.le_of_ble_eq_true rfl)))
  trivial
theorem QkH {L:List Nd} (hl:L.length<=1000000):Cf Tryz.prog 99 [] [Qj L] [] (Qj L):=by
 refine Qr {} Tryz.func99 Tryz.ntmps99 ?_;refine fun g1 hg1=>?_;refine ⟨fun h2=>?_,fun h2=>?_⟩
 ·skip
  have c2:=h2
  repeat refine o41 ?_
  trivial
 ·skip
  have c2:=h2
  repeat refine o65 ?_
  trivial
theorem QgC:∀ {T:Tr},T.flat.length<=1000000->Cf Tryz.prog 101 [] [.rp T.c] [] (Qj T.flat)
 | .nil,_=>Qiz
 | .node p o l r,h=>by
  have fl:=QV p o l r;exact QgB (QgC (by omega)) (QgC (by omega)) h
end
section
open Go.Lib
def ltB (p q:List Bool):Bool:=decide (QN p < QN q) || (decide (QN p=QN q) && decide (p.length < q.length))
theorem Xq {p q:List Bool}:ltB p q=true↔QN p < QN q\/QN p=QN q/\p.length < q.length:=by
 unfold ltB;simp
theorem Qup (p:List Bool):ltB p p=false:=by
 cases h:ltB p p with
 | false=>rfl
 | true=>have:=Xq.1 h;omega
theorem X0 {p q r:List Bool} (h:ltB p q=true) (k:ltB q r=true):ltB p r=true:=by
 have a:=Xq.1 h;have b:=Xq.1 k;exact Xq.2 (by omega)
theorem QmH {p q:List Bool} (hp:p.length<=32) (hn:p≠q) (h:ltB p q=false):ltB q p=true:=by
 refine Xq.2 ?_;have a:¬ (QN p < QN q\/QN p=QN q/\p.length < q.length):=fun k=>by rw [Xq.2 k] at h;cases h
 by_cases e:QN p=QN q
 ·by_cases l:p.length=q.length
  ·exact absurd (V4 l hp e) hn
  ·omega
 ·omega
theorem QwE {p q:List Bool} (h:ltB p q=true):p≠q:=fun e=>by subst e;rw [Qup] at h;cases h
def QiY (p q:List Bool):Int:=if ltB p q=true then -1 else if p=q then 0 else 1
def QbH (x:List Bool):List (List Bool)->List (List Bool)
 | []=>[x]
 | y::r=>if ltB x y=true then y::QbH x r else x::y::r
def QiZ (l:List (List Bool)):List (List Bool):=l.foldl (fun r x=>QbH x r) []
def WU (l:List (List Bool)):List (List Bool):=(QiZ l).reverse
theorem Jq (x:List Bool):∀ r,(QbH x r).Perm (x::r)
 | []=>QxA _
 | y::r=>by
  unfold QbH;split
  ·exact ((Jq x r).cons y).trans (List.Perm.swap x y r)
  ·exact QxA _
theorem Qee:∀ (l r:List (List Bool)),(l.foldl (fun r x=>QbH x r) r).Perm (r++l)
 | [],r=>by rw [Qxy];exact QxA _
 | x::l,r=>by
  refine (Qee l (QbH x r)).trans ?_;refine ((Jq x r).append_right l).trans ?_;exact List.perm_middle.symm
theorem Ye (l:List (List Bool)):(WU l).Perm l:=(List.reverse_perm _).trans (Qee l [])
theorem X1 (l:List (List Bool)):(WU l).length=l.length:=(Ye l).length_eq
def QmI (r:List (List Bool)):Prop:=r.Pairwise fun a b=>ltB b a=true
theorem Qft (x:List Bool):∀ r:List (List Bool),QmI r->x.length<=32->x ∉ r->QmI (QbH x r)
 | [],_,_,_=>Qxs _ _
 | y::r,h,hl,hn=>by
  obtain ⟨h1,h2⟩:=Qxw.1 h;rw [Qxx,not_or] at hn;unfold QbH;split
  ·next e =>
   refine Qxw.2 ⟨fun z hz=>?_,Qft x r h2 hl hn.2⟩;rcases Qxx.1 ((Jq x r).mem_iff.1 hz) with k | k
   ·rw [k];exact e
   ·exact h1 z k
  ·next e =>
   have k:ltB y x=true:=QmH hl hn.1 (by cases q:ltB x y;rfl;exact absurd q e);refine Qxw.2 ⟨fun z hz=>?_,h⟩;rcases Qxx.1 hz with rfl | hz
   ·exact k
   ·exact X0 (h1 z hz) k
theorem Qef:∀ (l r:List (List Bool)),QmI r->(∀ x∈l,x.length<=32)->(r++l).Nodup->QmI (l.foldl (fun r x=>QbH x r) r)
 | [],r,h,_,_=>h
 | x::l,r,h,hl,hn=>by
  have hn2:(QbH x r++l).Nodup:=((((Jq x r).append_right l).trans List.perm_middle.symm).nodup_iff).2 hn;have hx:x ∉ r:=fun k=>(Qxt.1 hn).2.2 x k x (by simp) rfl;exact Qef l (QbH x r) (Qft x r h (hl x (by simp)) hx) (fun y hy=>hl y (by simp [hy])) hn2
def Y2 (l:List (List Bool)):Prop:=l.Pairwise fun a b=>ltB a b=true
theorem QkY {l:List (List Bool)} (hl:∀ x∈l,x.length<=32) (hn:l.Nodup):Y2 (WU l) :=
 List.pairwise_reverse.2 (Qef l [] Qxu hl hn)
def swp (l:List (List Bool)) (j:Nat):List (List Bool):=(l.set (j+1) (l.getD j [])).set j (l.getD (j+1) [])
def Qcp:Nat->List (List Bool)->List (List Bool)
 | 0,l=>l
 | j+1,l=>if ltB (l.getD (j+1) []) (l.getD j [])=true then Qcp j (swp l j) else l
def QbI (l:List (List Bool)):Nat->List (List Bool)
 | 0=>l
 | k+1=>Qcp (k+1) (QbI l k)
theorem QmJ (l:List (List Bool)) (j:Nat):(swp l j).length=l.length:=by unfold swp;simp
theorem Qi0:∀ (j:Nat) (l:List (List Bool)),(Qcp j l).length=l.length
 | 0,l=>rfl
 | j+1,l=>by
  unfold Qcp;split
  ·rw [Qi0 j,QmJ]
  ·rfl
theorem Qi1 (l:List (List Bool)):∀ k,(QbI l k).length=l.length
 | 0=>rfl
 | k+1=>by unfold QbI;rw [Qi0,Qi1 l k]
theorem QmK (x:List Bool) (post:List (List Bool)):∀ (rp post:List (List Bool)),Qcp rp.length (rp.reverse++x::post)=(QbH x rp).reverse++post
 | [],post=>rfl
 | y::rp,post=>by
  have e:(y::rp).reverse++x::post=rp.reverse++y::x::post:=by simp
  rw [e];show Qcp (rp.length+1) _=_;unfold Qcp QbH
  have g1:(rp.reverse++y::x::post).getD (rp.length+1) []=x:=by
   rw [Qxo,Qxq (by simp)];simp
  have g2:(rp.reverse++y::x::post).getD rp.length []=y:=by
   rw [Qxo,Qxq (by simp)];simp
  rw [g1,g2];split
  ·have e2:swp (rp.reverse++y::x::post) rp.length=rp.reverse++x::(y::post):=by
    unfold swp;rw [g1,g2,QxB _ _ (by simp),QxB _ _ (by simp)];simp
   rw [e2,QmK x post rp (y::post)];simp
  ·simp
theorem QmL (l:List (List Bool)):∀ k,k < l.length->QbI l k=(QiZ (l.take (k+1))).reverse++l.drop (k+1)
 | 0,h=>by
  cases l with
  | nil=>cases h
  | cons x l=>rfl
 | k+1,h=>by
  unfold QbI;rw [QmL l k (by omega),List.drop_eq_getElem_cons h]
  have hl:(QiZ (l.take (k+1))).length=k+1:=by
   have:=(X1 (l.take (k+1)));unfold WU at this;rw [List.length_reverse] at this;rw [this,List.length_take];omega
  have:=QmK (l[k+1]) [] (QiZ (l.take (k+1))) (l.drop (k+1+1));rw [hl] at this;rw [this,List.take_succ_eq_append_getElem (i:=k+1) h];unfold QiZ;rw [List.foldl_append];rfl
theorem Qq6 {l:List (List Bool)} {i:Nat} (h:l.length<=i) (hi:1<=i) (k:i=1\/i<=l.length):QbI l (i - 1)=WU l:=by
 cases l with
 | nil =>
  rcases k with k | k
  ·subst k;rfl
  ·simp at k;omega
 | cons x l =>
  have e:i - 1 < (x::l).length:=by rcases k with k | k <;> simp at h k ⊢ <;> omega
  have e2:i - 1+1=(x::l).length:=by simp at h e ⊢;omega
  rw [QmL _ _ e,e2,List.take_length,List.drop_length,Qxy];rfl
structure PeerS where
 k:List UInt8
 s:List UInt8
 e:List UInt8
 a:Int
 ns:List (List Bool)
 deriving Inhabited
structure ConfS where
 k:List UInt8
 port:Int
 ps:List PeerS
def Qa:PeerS:=⟨[],[],[],0,[]⟩
def Qz (p:List Bool):Nat->EV
 | 0=>.u32 (adr p)
 | _=>.i (p.length:Int)
abbrev Wm (ns:List (List Bool)):EV:=.lz ns.length 2 (fun i j=>Qz (ns.getD i []) j)
def Qe (p:PeerS):Nat->EV
 | 0=>.s p.k
 | 1=>.s p.s
 | 2=>.s p.e
 | 3=>.i p.a
 | _=>Wm p.ns
abbrev Ws (ps:List PeerS):EV:=.lz ps.length 5 (fun i j=>Qe (ps.getD i Qa) j)
abbrev Qn (c:ConfS):EV:=.agg [.s c.k,.i c.port,Ws c.ps]
abbrev QmM (p:PeerS):EV:=.agg [.s p.k,.s p.s,.s p.e,.i p.a,Wm p.ns]
structure PeerOk (p:PeerS):Prop where
 k:ZX p.k=0
 s:p.s=[]\/(p.s≠W5/\ZX p.s=0)
 e:p.e=[]\/Xx p.e=0
 a:0<=p.a/\p.a<=65535
 nl:p.ns.length<=8
 nb:∀ n∈p.ns,n.length<=32
 ns:Y2 p.ns
def Qeg (p q:PeerS):Prop:=Op.bytesLess q.k p.k=false/\q.k≠p.k
structure ConfOk (c:ConfS):Prop where
 k:c.k=[]\/ZX c.k=0
 port:0<=c.port/\c.port<=65535
 pl:c.ps.length<=6
 ps:∀ p∈c.ps,PeerOk p/\p.k≠c.k
 inc:c.ps.Pairwise Qeg
 nd:(c.ps.flatMap (·.ns)).Nodup
def Qi2 (n:Int):Int:=IntKind.i64.wrap n
def nsK (r:RawS) (k:Nat):List Bool:=Qub r.k (Qi2 (r.a+5 * (k:Int))) (Qi2 (r.b+(k:Int)))
def Y6 (r:RawS) (met:List (List Bool)):Nat->List (List Bool)
 | 0=>[]
 | k+1=>if nsK r k∈met++Y6 r met k then Y6 r met k else Y6 r met k++[nsK r k]
theorem X2 (r:RawS) (met:List (List Bool)):∀ k,(Y6 r met k).length<=k
 | 0=>Qxz _
 | k+1=>by
  have:=X2 r met k;unfold Y6;split
  ·omega
  ·rw [Qxp];simp;omega
theorem QmN (r:RawS) (met:List (List Bool)) (h:met.Nodup):∀ k,(met++Y6 r met k).Nodup
 | 0=>by unfold Y6;rw [Qxy];exact h
 | k+1=>by
  have ih:=QmN r met h k;unfold Y6;split
  ·exact ih
  ·next e =>
   rw [<- List.append_assoc];refine Qxt.2 ⟨ih,Qxs _ _,fun a ha b hb=>?_⟩;rw [Qxr] at hb;subst hb;exact fun k=>e (by rw [<- k];exact ha)
theorem QaX (r:RawS) (met:List (List Bool)):∀ k,∀ n∈Y6 r met k,n.length<=32
 | 0,n,h=>by cases h
 | k+1,n,h=>by
  unfold Y6 at h;split at h
  ·exact QaX r met k n h
  ·rcases Qxv.1 h with h | h
   ·exact QaX r met k n h
   ·rw [Qxr] at h;rw [h];exact QaP
def Yx (r:RawS):Nat:=(pk r.k 4).toNat
def JL (r:RawS) (i:Nat) (ns:List (List Bool)):PeerS :=
 ⟨Wy i,if pk r.k 3=0 then Wy 7 else [],endL.getD (pk r.a 5).toNat [],pk r.b 100,WU ns⟩
def QH (met:List (List Bool)) (n:List Bool):List (List Bool):=met.filter fun m=>!decide (m=n)
def QP (l:List RawS):Nat->List (List Bool)×List PeerS
 | 0=>([],[])
 | i+1=>if 0 < pk (rA l (i+1)).k 5 then ((QP l i).1++Y6 (rA l (i+1)) (QP l i).1 (Yx (rA l (i+1))),(QP l i).2++[JL (rA l (i+1)) (i+1) (Y6 (rA l (i+1)) (QP l i).1 (Yx (rA l (i+1))))])
  else ((WU (Y6 (rA l (i+1)) (QP l i).1 (Yx (rA l (i+1))))).foldl QH ((QP l i).1++Y6 (rA l (i+1)) (QP l i).1 (Yx (rA l (i+1)))),(QP l i).2)
def Qeh (l:List RawS):ConfS:=⟨Wy 0,if l.length=0 then 0 else pk (rA l 0).a 65536,(QP l (min (l.length - 1) 6)).2⟩
theorem Qei:∀ (ns met:List (List Bool)) (x:List Bool),x∈ns.foldl QH met↔x∈met/\x ∉ ns
 | [],met,x=>by simp
 | n::ns,met,x=>by
  show x∈ns.foldl QH (QH met n)↔_;rw [Qei ns (QH met n) x];unfold QH;simp only [List.mem_filter,Qxx,not_or,Bool.not_eq_true',decide_eq_false_iff_not];exact ⟨fun ⟨⟨a,b⟩,c⟩=>⟨a,b,c⟩,fun ⟨a,b,c⟩=>⟨⟨a,b⟩,c⟩⟩
theorem QmO:∀ (ns met:List (List Bool)),met.Nodup->(ns.foldl QH met).Nodup
 | [],met,h=>h
 | n::ns,met,h=>QmO ns _ (h.filter _)
theorem QaY:∀ (ns met:List (List Bool)),(ns.foldl QH met).length<=met.length
 | [],met=>Qxz _
 | n::ns,met=>Nat.le_trans (QaY ns _) (List.length_filter_le _ _)
theorem QgW (ns met:List (List Bool)) (h:∀ n∈met,n.length<=32):∀ n∈ns.foldl QH met,n.length<=32:=fun n hn=>h n ((Qei ns met n).1 hn).1
theorem Qq7:∀ i,i < 8 -> ∀ j,j < 8->i < j->Op.bytesLess (Wy j) (Wy i)=false/\Wy j≠Wy i:=by
 unfold Wy;decide +kernel
theorem Qq8 {r:RawS} {i:Nat} {ns:List (List Bool)} (hi:i < 8) (h3:ns.length<=8) (hn:ns.Nodup) (h32:∀ n∈ns,n.length<=32):PeerOk (JL r i ns):=by
 refine ⟨QaS i hi,?_,?_,?_,?_,fun n h=>h32 n ((Ye ns).mem_iff.1 h),QkY h32 hn⟩
 ·show (if pk r.k 3=0 then Wy 7 else [])=[]\/_;by_cases h:pk r.k 3=0
  ·right;show (if pk r.k 3=0 then Wy 7 else [])≠W5/\ZX (if pk r.k 3=0 then Wy 7 else [])=0;rw [if_pos h];exact ⟨QwB 7 (by decide),QaS 7 (by decide)⟩
  ·left;rw [if_neg h]
 ·have h1:=QdW r.a (m:=5) (by decide);have h2:=Qb9 r.a (m:=5) (by decide);show endL.getD (pk r.a 5).toNat []=[]\/Xx (endL.getD (pk r.a 5).toNat [])=0;by_cases h:(pk r.a 5).toNat=0
  ·left;rw [h];rfl
  ·right;exact QwA ⟨(pk r.a 5).toNat,by omega⟩ h
 ·have h1:=QdW r.b (m:=100) (by decide);have h2:=Qb9 r.b (m:=100) (by decide);exact ⟨h1,by show pk r.b 100<=65535;omega⟩
 ·show (WU ns).length<=8;rw [X1];exact h3
structure StOk (s:List (List Bool)×List PeerS) (i:Nat):Prop where
 nd:s.1.Nodup
 len:s.1.length<=3 * i
 b32:∀ n∈s.1,n.length<=32
 pl:s.2.length<=i
 ps:∀ p∈s.2,PeerOk p/\∃ j,1<=j/\j<=i/\p.k=Wy j
 inc:s.2.Pairwise Qeg
 fl:(s.2.flatMap (·.ns)).Nodup
 sub:∀ n∈s.2.flatMap (·.ns),n∈s.1
theorem QbJ (l:List RawS):∀ i,i<=6->StOk (QP l i) i
 | 0,_=>⟨Qxu,Qxz _,fun n h=>(by cases h),Qxz _,fun n h=>(by cases h),Qxu,Qxu,fun n h=>(by cases h)⟩
 | i+1,hi=>by
  have ih:=QbJ l i (by omega)
  have c3:Yx (rA l (i+1))<=3:=by
   have h2:=Qb9 (rA l (i+1)).k (m:=4) (by decide);unfold Yx;omega
  obtain ⟨ns,hns⟩:∃ ns,ns=Y6 (rA l (i+1)) (QP l i).1 (Yx (rA l (i+1))):=⟨_,rfl⟩;have nd:=QmN (rA l (i+1)) (QP l i).1 ih.nd (Yx (rA l (i+1)));have nl:=X2 (rA l (i+1)) (QP l i).1 (Yx (rA l (i+1)));have n32:=QaX (rA l (i+1)) (QP l i).1 (Yx (rA l (i+1)));have hlen:=ih.len;have hpl:=ih.pl;unfold QP;rw [<- hns] at nd nl n32 ⊢;obtain ⟨d1,d2,d3⟩:=Qxt.1 nd;have b32:∀ n∈(QP l i).1++ns,n.length<=32:=fun n h=>(Qxv.1 h).elim (ih.b32 n) (n32 n);split
  ·refine ⟨nd,by rw [Qxp];omega,b32,by rw [Qxp];simp;omega,fun p h=>?_,List.pairwise_append.2 ⟨ih.inc,Qxs _ _,fun p hp q hq=>?_⟩,?_,fun n hn=>?_⟩
   ·rcases Qxv.1 h with h | h
    ·obtain ⟨k1,j,j1,j2,j3⟩:=ih.ps p h;exact ⟨k1,j,j1,by omega,j3⟩
    ·rw [Qxr] at h;subst h;exact ⟨Qq8 (by omega) (by omega) d2 n32,i+1,by omega,by omega,rfl⟩
   ·rw [Qxr] at hq;subst hq;obtain ⟨_,j,j1,j2,j3⟩:=ih.ps p hp;have:=Qq7 j (by omega) (i+1) (by omega) (by omega);unfold Qeg;rw [j3];exact this
   ·rw [QxD];have e:[JL (rA l (i+1)) (i+1) ns].flatMap (·.ns)=WU ns:=by simp [JL]
    rw [e];refine Qxt.2 ⟨ih.fl,(Ye ns).nodup_iff.2 d2,fun a ha b hb k=>?_⟩;exact d3 a (ih.sub a ha) b ((Ye ns).mem_iff.1 hb) k
   ·rw [QxD] at hn;have e:[JL (rA l (i+1)) (i+1) ns].flatMap (·.ns)=WU ns:=by simp [JL]
    rw [e] at hn;rcases Qxv.1 hn with h | h
    ·exact QxC _ (ih.sub n h)
    ·exact List.mem_append_right _ ((Ye ns).mem_iff.1 h)
  ·refine ⟨QmO _ _ nd,?_,QgW _ _ b32,by show (QP l i).2.length<=_;omega,fun p h=>?_,ih.inc,ih.fl,fun n hn=>?_⟩
   ·have:=QaY (WU ns) ((QP l i).1++ns);rw [Qxp] at this;show ((WU ns).foldl QH ((QP l i).1++ns)).length<=_;omega
   ·obtain ⟨k1,j,j1,j2,j3⟩:=ih.ps p h;exact ⟨k1,j,j1,by omega,j3⟩
   ·refine (Qei _ _ n).2 ⟨QxC _ (ih.sub n hn),fun k=>?_⟩;exact d3 n (ih.sub n hn) n ((Ye ns).mem_iff.1 k) rfl
theorem Qq9 (l:List RawS):ConfOk (Qeh l):=by
 have h:=QbJ l (min (l.length - 1) 6) (by omega);have hpl:=h.pl;refine ⟨.inr (QaS 0 (by decide)),?_,by show (QP l (min (l.length - 1) 6)).2.length<=6;omega,fun p hp=>?_,h.inc,h.fl⟩
 ·show 0<=(if l.length=0 then 0 else pk (rA l 0).a 65536)/\(if l.length=0 then 0 else pk (rA l 0).a 65536)<=65535;split
  ·decide
  ·have h1:=QdW (rA l 0).a (m:=65536) (by decide);have h2:=Qb9 (rA l 0).a (m:=65536) (by decide);omega
 ·obtain ⟨k1,j,j1,j2,j3⟩:=h.ps p hp;refine ⟨k1,?_⟩;rw [j3];exact (Qq7 0 (by decide) j (by omega) (by omega)).2
end
end Go.Proofs.YtcebndkiagbddaaGreatDoor
