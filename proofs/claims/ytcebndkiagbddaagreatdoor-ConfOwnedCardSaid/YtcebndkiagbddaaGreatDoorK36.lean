/- A part of the proof: contracts of functions and what they stand on. Written shorter and merged by a program (pack.py). -/
import Derived.Test.YtcebndkiagbddaaGreatDoorK35
import Derived.Test.YtcebndkiagbddaaGreatDoorK34
set_option linter.unusedVariables false
set_option linter.unusedSimpArgs false
set_option maxRecDepth 100000
set_option maxHeartbeats 4000000
open List renaming getD_eq_getElem?_getD -> Qxo, length_take -> Qxp, length_map -> Qxq, getElem?_eq_none -> Qxr, length_append -> Qxs, length_drop -> Qxt
namespace Go.Proofs.YtcebndkiagbddaaGreatDoor
section
open Tr
abbrev nAt (L:List Nd) (i:Nat):Nd:=L.getD i default
end
section
open Go.RowKit
abbrev kK (ps:List PeerS):List EV:=[Wm (ps.getD 0 Qa).ns,Wm (ps.getD 1 Qa).ns,Wm (ps.getD 2 Qa).ns,Wm (ps.getD 3 Qa).ns,Wm (ps.getD 4 Qa).ns,Wm (ps.getD 5 Qa).ns]
theorem QvC {ps:List PeerS} {i:Nat} (h:i < 6):(kK ps).getD i .any=Wm (ps.getD i Qa).ns:=by
 have:i=0\/i=1\/i=2\/i=3\/i=4\/i=5:=by omega
 rcases this with rfl | rfl | rfl | rfl | rfl | rfl <;> rfl
theorem QrJ {ps:List PeerS} {n:Nat} (hn:n<=6):∀ i,i < n -> ∀ j,j < 5->QtG (kK ps) (JM (ps.getD i Qa) i j):=fun i hi j hj=>by
 have:j=0\/j=1\/j=2\/j=3\/j=4:=by omega
 rcases this with rfl | rfl | rfl | rfl | rfl
 ·rfl
 ·rfl
 ·rfl
 ·rfl
 ·exact ⟨show i < 6 by omega,by rw [QvC (by omega)];rfl⟩
theorem QvD {ps:List PeerS} {n:Nat} (hn:n<=6):∀ i,i < n -> ∀ j,j < 5->raC (kK ps) (JM (ps.getD i Qa) i j)=Qe (ps.getD i Qa) j:=fun i hi j hj=>by
 have:j=0\/j=1\/j=2\/j=3\/j=4:=by omega
 rcases this with rfl | rfl | rfl | rfl | rfl
 ·rfl
 ·rfl
 ·rfl
 ·rfl
 ·exact QvC (by omega)
theorem QrK {c:ConfS} {at_:List UInt8} {i:Nat} (hl:c.ps.length<=6) (hk:Qq c.ps at_=(i:Int)):Cf Tryz.prog 82 [] [Qn c,.s at_] [] (.tup [.i (i:Int),.i 0]):=by
 have k:=QcI (c:=c) (k:=at_) (by omega);rw [hk,if_neg (by omega),if_neg (by omega)] at k;exact k
theorem WD {c:ConfS} {at_:List UInt8} {i:Nat} (hl:c.ps.length<=6) (ha:at_≠[]) (hi:i < c.ps.length) (hk:Qq c.ps at_=(i:Int)):Cf Tryz.prog 113 [(0,bK c 1 c.ps.length),(1,rK c.ps.length (c.ps) nmK),(7000,dK (c.ps) 0),(7001,dK (c.ps) 1),(7002,dK (c.ps) 2),(7003,dK (c.ps) 3),(7004,dK (c.ps) 4),(7005,dK (c.ps) 5)] [.own 0 0,.s at_] [(0,bK c 1 c.ps.length),(1,rK c.ps.length (c.ps) nmK),(7000,dK (c.ps) 0),(7001,dK (c.ps) 1),(7002,dK (c.ps) 2),(7003,dK (c.ps) 3),(7004,dK (c.ps) 4),(7005,dK (c.ps) 5)] (.tup [.po 1 5 i 0,.i 0]):=by
 refine Qr {bo:=[13]} Tryz.func113 Tryz.ntmps113 ?_;refine clX (QrK (c:=c) hl hk) ?_
 repeat (refine Ob.mk ?_ ?_;focus (first | (exact QrJ hl) | (exact QvD hl) | (exact Eq.refl _) | (exact fun hg=>Yz hg) | (exact fun hg=>hg)))
 refine ⟨fun h1=>?_,fun h1=>?_⟩
 ·skip
  (simp only [Int.reduceToNat,UInt8.reduceOfNat] at h1)
  have c1:=h1
  (simp only [bsX] at c1)
  exact absurd c1 (by simp [ha])
 ·skip
  (simp only [Int.reduceToNat,UInt8.reduceOfNat] at h1)
  have c1:=h1
  (simp only [bsX] at c1)
  repeat refine o1 ?_
  trivial
def Zd (n:List Bool) (p:PeerS):PeerS:=⟨p.k,p.s,p.e,p.a,QH p.ns n⟩
def psD (ps:List PeerS) (n:List Bool) (i:Nat):List PeerS:=(ps.take i).map (Zd n)++ps.drop i
theorem Q2 {ps:List PeerS} {n:List Bool} {i:Nat}:(psD ps n i).length=ps.length:=by
 unfold psD;rw [Qxs,Qxq,Qxp,Qxt];omega
theorem J4 {ps:List PeerS} {n:List Bool} {i:Nat} (a:Nat):(psD ps n i).getD a Qa=if a < i then Zd n (ps.getD a Qa) else ps.getD a Qa:=by
 unfold psD;rw [Qxo];by_cases h:a < i
 ·rw [if_pos h,Qxo];by_cases h2:a < ps.length
  ·rw [List.getElem?_append_left (by rw [Qxq,Qxp];omega),List.getElem?_map,List.getElem?_take_of_lt h,List.getElem?_eq_getElem h2];rfl
  ·rw [Qxr (by rw [Qxs,Qxq,Qxp,Qxt];omega),Qxr (by omega)];rfl
 ·rw [if_neg h,Qxo];by_cases h2:a < ps.length
  ·rw [List.getElem?_append_right (by rw [Qxq,Qxp];omega),Qxq,Qxp,List.getElem?_drop,Nat.min_eq_left (by omega),show i+(a - i)=a from by omega]
  ·rw [Qxr (by rw [Qxs,Qxq,Qxp,Qxt];omega),Qxr (by omega)]
theorem Qk7 {ps:List PeerS} {n:List Bool} {i a:Nat} (h:a≠i):(psD ps n i).getD a Qa=(psD ps n (i+1)).getD a Qa:=by
 rw [J4,J4];by_cases e:a < i
 ·rw [if_pos e,if_pos (by omega)]
 ·rw [if_neg e,if_neg (by omega)]
theorem Qk8 {ps:List PeerS} {n:List Bool} {i:Nat}:(psD ps n (i+1)).getD i Qa=Zd n ((psD ps n i).getD i Qa):=by
 rw [J4,J4,if_pos (by omega),if_neg (by omega)]
theorem QuO (ps:List PeerS) (n:List Bool) (i:Nat):(psD ps n i).map (·.k)=ps.map (·.k):=by
 unfold psD;rw [List.map_append,List.map_map,List.map_take,List.map_drop]
 conv=>rhs;rw [<- List.take_append_drop i (ps.map (·.k))]
 congr 1
theorem Jx (ps:List PeerS) (n:List Bool) (i:Nat) (k:List UInt8):Qq (psD ps n i) k=Qq ps k:=by unfold Qq;rw [QuO]
theorem Qg1 (ns:List (List Bool)) (n:List Bool):(QH ns n).length<=ns.length:=List.length_filter_le _ _
theorem Qjf {ns:List (List Bool)} {n x:List Bool} (h:x∈QH ns n):x∈ns:=(List.mem_filter.1 h).1
structure PsOk (ps:List PeerS):Prop where
 len:ps.length<=6
 nl:∀ a,(ps.getD a Qa).ns.length<=8
 nb:∀ a,∀ x∈(ps.getD a Qa).ns,x.length<=32
 ns:∀ a,Y2 (ps.getD a Qa).ns
theorem PsOk.del {ps:List PeerS} (h:PsOk ps) (n:List Bool) (i:Nat):PsOk (psD ps n i):=by
 refine ⟨by rw [Q2];exact h.len,fun a=>?_,fun a x hx=>?_,fun a=>?_⟩
 ·rw [J4];split
  ·exact Nat.le_trans (Qg1 _ _) (h.nl a)
  ·exact h.nl a
 ·rw [J4] at hx;split at hx
  ·exact h.nb a x (Qjf hx)
  ·exact h.nb a x hx
 ·rw [J4];split
  ·exact (h.ns a).filter _
  ·exact h.ns a
theorem K_or {ps:List PeerS} {i m:Nat}:∀ a,a < m -> ∀ b,b < 5->(a=i/\b=4)\/noL i (JM (ps.getD a Qa) a b):=fun a _ b hb=>by
 by_cases e:a=i
 ·have:b=0\/b=1\/b=2\/b=3\/b=4:=by omega
  rcases this with rfl | rfl | rfl | rfl | rfl
  ·exact .inr rfl
  ·exact .inr rfl
  ·exact .inr rfl
  ·exact .inr rfl
  ·exact .inl ⟨e,rfl⟩
 ·exact .inr (QvB e b)
theorem st_K {ps qs:List PeerS} {L:List (List Bool)} {i m k:Nat} (h1:∀ a,a≠i->ps.getD a Qa=qs.getD a Qa) (h2:qs.getD i Qa=⟨(ps.getD i Qa).k,(ps.getD i Qa).s,(ps.getD i Qa).e,(ps.getD i Qa).a,L⟩) (hm:m=L.length) :
  ∀ a,a < k -> ∀ b,b < 5->stZ (fun a b=>JM (ps.getD a Qa) a b) i 4 [.osl i m] a b=JM (qs.getD a Qa) a b:=fun a _ b hb=>by
 unfold stZ;by_cases e:a=i
 ·subst e;rw [h2];have:b=0\/b=1\/b=2\/b=3\/b=4:=by omega
  subst hm;have hbb:Nat.beq a a=true:=by simp
  rw [hbb];rcases this with rfl | rfl | rfl | rfl | rfl <;> rfl
 ·have:Nat.beq a i=false:=by
   cases q:Nat.beq a i with
   | false=>rfl
   | true=>exact absurd (Nat.eq_of_beq_eq_true q) e
  rw [this];show JM (ps.getD a Qa) a b=_;rw [h1 a e]
def Qh (ps:List PeerS) (i:Nat) (n:List Bool):List PeerS :=
 (psD ps n ps.length).set i ⟨((psD ps n ps.length).getD i Qa).k,((psD ps n ps.length).getD i Qa).s,((psD ps n ps.length).getD i Qa).e,((psD ps n ps.length).getD i Qa).a,J3 ((psD ps n ps.length).getD i Qa).ns (lbN ((psD ps n ps.length).getD i Qa).ns n) n⟩
theorem Qep {ps:List PeerS} {i:Nat} {n:List Bool} (hi:i < ps.length):(Qh ps i n).getD i Qa=⟨((psD ps n ps.length).getD i Qa).k,((psD ps n ps.length).getD i Qa).s,((psD ps n ps.length).getD i Qa).e,((psD ps n ps.length).getD i Qa).a,J3 ((psD ps n ps.length).getD i Qa).ns (lbN ((psD ps n ps.length).getD i Qa).ns n) n⟩:=by
 unfold Qh;rw [Qxo (l:=(psD ps n ps.length).set i _),List.getElem?_set_self (by rw [Q2];exact hi)];rfl
theorem Qeq {ps:List PeerS} {i a:Nat} {n:List Bool} (h:a≠i):(psD ps n ps.length).getD a Qa=(Qh ps i n).getD a Qa:=by
 unfold Qh;rw [Qxo,Qxo (l:=(psD ps n ps.length).set i _),List.getElem?_set_ne (Ne.symm h)]
def WP (ps:List PeerS) (i:Nat) (n:List Bool):Prop:=((psD ps n ps.length).getD i Qa).ns.length=8
instance (ps:List PeerS) (i:Nat) (n:List Bool):Decidable (WP ps i n):=by unfold WP;exact inferInstance
def Qg (ps:List PeerS) (i:Nat) (n:List Bool):List PeerS:=if WP ps i n then psD ps n ps.length else Qh ps i n
def Q5 (ps:List PeerS) (i:Nat) (n:List Bool):Int:=if WP ps i n then 7 else 0
theorem YO {ps:List PeerS} {i:Nat} {n:List Bool}:(Qg ps i n).length=ps.length:=by
 unfold Qg;split
 ·exact Q2
 ·unfold Qh;rw [List.length_set];exact Q2
theorem J5 (ns:List (List Bool)) (n:List Bool):lbN ns n<=ns.length:=List.countP_le_length
theorem nsE {p q:PeerS} (h:p=q):∀ x,x < p.ns.length -> ∀ y,y < 2->Qz (p.ns.getD x []) y=Qz (q.ns.getD x []) y:=fun _ _ _ _=>by rw [h]
theorem nsL {p q:PeerS} (h:p=q):p.ns.length=q.ns.length:=by rw [h]
end
section
open Go.RowKit Go.Lib
def d1 (b:ConfS) (p:PeerS):List SetS:=if fE b.ps p.k≠0\/QvJ p (fP b.ps p.k)=true then [⟨4,p.k,0,[]⟩,⟨5,[],0,[]⟩] else []
def d2 (a b:ConfS):List SetS:=if a.k=b.k then [] else [⟨1,b.k,0,[]⟩]
def d3 (a b:ConfS):List SetS:=if a.port=b.port then [] else [⟨2,[],b.port,[]⟩]
end
end Go.Proofs.YtcebndkiagbddaaGreatDoor
