/- A part of the proof: contracts of functions and what they stand on. Written shorter and merged by a program (pack.py). -/
import Derived.Test.YtcebndkiagbddaaGreatDoorK43
import Derived.Test.YtcebndkiagbddaaGreatDoorK42
set_option linter.unusedVariables false
set_option linter.unusedSimpArgs false
set_option maxRecDepth 100000
set_option maxHeartbeats 4000000
open List renaming getD_eq_getElem?_getD -> Qxo, getElem?_eq_getElem -> Qxp, flatMap_cons -> Qxq, pairwise_cons -> Qxr, mem_cons -> Qxu, take_append_drop -> Qxv, take_succ_eq_append_getElem -> Qxw, getElem_mem -> Qxx, getElem_map -> Qxy, perm_middle -> Qxz, length_map -> QxA, mem_cons_of_mem -> QxB, length_append -> QxD, mem_cons_self -> QxE, drop_eq_getElem_cons -> QxF, mem_or_eq_of_mem_set -> QxG, mem_flatMap -> QxH, countP_cons_of_pos -> QxI, pairwise_singleton -> QxJ, length_singleton -> QxK, flatMap_append -> QxN, countP_eq_zero -> QxO, mem_map -> QxP
open List.Sublist renaming refl -> Qxs, append -> QxC
open List.Pairwise renaming nil -> Qxt
open UInt8 renaming lt_iff_toNat_lt -> QxL
open Bool renaming or_eq_false_iff -> QxM
open Nat renaming le_trans -> QxQ, le_refl -> QxR
namespace Go.Proofs.YtcebndkiagbddaaGreatDoor
section
open Tr
abbrev NK:=List Bool×List UInt8
def Vx (p:PeerS):List NK:=p.ns.map fun n=>(n,p.k)
def WY (ps:List PeerS):List NK:=ps.flatMap Vx
def trN (L:List NK):Tr:=L.foldl (fun T x=>W4 T x.1 x.2) .nil
theorem Qi3 (L:List NK) (x:NK):trN (L++[x])=W4 (trN L) x.1 x.2:=by unfold trN;rw [List.foldl_append];rfl
structure NKOk (L:List NK):Prop where
 b:∀ x∈L,x.1.length<=32/\x.2≠[]
 nd:(L.map (·.1)).Nodup
structure TrOf (T:Tr) (L:List NK):Prop where
 wf:T.wf
 len:T.flat.length<=2 * L.length
 own:YH T=L.length
 has:∀ m y,T.has m y↔(m,y)∈L
theorem Qra {L:List NK} (h:NKOk L):∀ i,i<=L.length->TrOf (trN (L.take i)) (L.take i)
 | 0,_=>⟨trivial,QxR _,rfl,fun m y=>⟨fun h=>h.elim,fun h=>by cases h⟩⟩
 | i+1,hi=>by
  obtain ⟨w,l,o,hs⟩:=Qra h i (by omega);have hb:=h.b L[i] (Qxx _)
  have hno:¬ ∃ y,(trN (L.take i)).has L[i].1 y:=fun ⟨y,hy⟩=>by
   obtain ⟨j,hj,ej⟩:=List.mem_iff_getElem.1 ((hs _ _).1 hy);rw [List.getElem_take] at ej;rw [List.length_take] at hj;have hp:=List.pairwise_iff_getElem.1 h.nd j i (by rw [QxA];omega) (by rw [QxA];omega) (by omega);rw [Qxy,Qxy,ej] at hp;exact hp rfl
  rw [Qxw (i:=i) (by omega),Qi3];refine ⟨Qcz w hb.1 hb.2,?_,?_,fun m y=>?_⟩
  ·have:=QaT (T:=trN (L.take i)) (n:=L[i].1) (o:=L[i].2);rw [QxD,QxK];omega
  ·rw [QaU w hb.2,if_neg hno,o,QxD,QxK]
  ·rw [QaO w hb.2,hs,List.mem_append,List.mem_singleton];constructor
   ·rintro (⟨rfl,rfl⟩ | ⟨_,k⟩)
    ·exact .inr rfl
    ·exact .inl k
   ·rintro (k | k)
    ·exact .inr ⟨fun em=>hno ⟨y,(hs _ _).2 (em ▸ k)⟩,k⟩
    ·exact .inl ⟨congrArg Prod.fst k,congrArg Prod.snd k⟩
theorem Qrb {L:List NK} (h:NKOk L):TrOf (trN L) L:=by
 have:=Qra h L.length (QxR _);rw [List.take_length] at this;exact this
theorem NKOk.pre {L M:List NK} (h:NKOk M) (k:L <+: M):NKOk L :=
 ⟨fun x hx=>h.b x (k.subset hx),List.Pairwise.sublist (k.sublist.map _) h.nd⟩
theorem Qfu:∀ ps:List PeerS,(WY ps).map (·.1)=ps.flatMap (·.ns)
 | []=>rfl
 | p::ps=>by
  show (Vx p++WY ps).map (·.1)=p.ns++ps.flatMap (·.ns);rw [List.map_append,Qfu ps];unfold Vx;rw [List.map_map];congr 1;exact (List.map_congr_left (fun _ _=>rfl)).trans (List.map_id _)
theorem Qi4 {c:ConfS} (h:ConfOk c):NKOk (WY c.ps):=by
 refine ⟨fun x hx=>?_,?_⟩
 ·obtain ⟨p,hp,hx⟩:=QxH.1 hx;obtain ⟨n,hn,rfl⟩:=QxP.1 hx;have:=(h.ps p hp).1;refine ⟨this.nb n hn,fun e=>?_⟩;have e1:p.k=[]:=e;have hk:=this.k;rw [e1] at hk;exact absurd hk (by decide)
 ·rw [Qfu];exact h.nd
def trC (c:ConfS):Tr:=trN (WY c.ps)
def tij (c:ConfS) (i j:Nat):Tr:=trN (WY (c.ps.take i)++(Vx (c.ps.getD i Qa)).take j)
theorem QmP {c:ConfS} {i:Nat} (hi:i < c.ps.length) (j:Nat):WY (c.ps.take i)++(Vx (c.ps.getD i Qa)).take j <+: WY c.ps:=by
 have e:c.ps=c.ps.take i++(c.ps.getD i Qa::c.ps.drop (i+1)):=by
  conv=>lhs;rw [<- Qxv i c.ps,QxF hi]
  rw [Qxo,Qxp hi];rfl
 conv=>rhs;rw [e]
 unfold WY;rw [QxN,Qxq];exact (List.prefix_append_right_inj _).2 ((List.take_prefix _ _).trans (List.prefix_append _ _))
theorem Jr (p:PeerS):(Vx p).length=p.ns.length:=by unfold Vx;exact QxA ..
theorem QbK {ps:List PeerS} (h:∀ p∈ps,p.ns.length<=8):(WY ps).length<=8 * ps.length:=by
 induction ps with
 | nil=>exact QxR _
 | cons p ps ih =>
  have h1:=ih fun q hq=>h q (QxB _ hq);have h2:=h p (QxE ..);show (Vx p++WY ps).length<=_;rw [QxD,Jr,List.length_cons];omega
theorem QkZ {c:ConfS} (h:ConfOk c):TrOf (trC c) (WY c.ps):=Qrb (Qi4 h)
theorem Quq {c:ConfS} (h:ConfOk c):(trC c).flat.length<=96:=by
 have h1:=(QkZ h).len;have h2:=QbK (ps:=c.ps) fun p hp=>(h.ps p hp).1.nl;have h3:=h.pl;omega
theorem QwF {c:ConfS} (h:ConfOk c) {i:Nat} (hi:i < c.ps.length) (j:Nat):(tij c i j).wf/\(tij c i j).flat.length<=96:=by
 have t:=Qrb ((Qi4 h).pre (QmP hi j));have h1:=(QmP hi j).length_le;have h2:=QbK (ps:=c.ps) fun p hp=>(h.ps p hp).1.nl;have h3:=h.pl;exact ⟨t.wf,QxQ t.len (by omega)⟩
theorem Qvz (c:ConfS) (i:Nat):tij c i 0=trN (WY (c.ps.take i)):=by unfold tij;rw [List.take_zero,List.append_nil]
theorem Qrc {c:ConfS} {i j:Nat} (hj:j < (c.ps.getD i Qa).ns.length):tij c i (j+1)=W4 (tij c i j) ((c.ps.getD i Qa).ns.getD j []) (c.ps.getD i Qa).k:=by
 have hl:j < (Vx (c.ps.getD i Qa)).length:=by rw [Jr];exact hj
 unfold tij;rw [Qxw hl,<- List.append_assoc,Qi3]
 have e:(Vx (c.ps.getD i Qa))[j]=((c.ps.getD i Qa).ns.getD j [],(c.ps.getD i Qa).k):=by
  rw [Qxo (l:=(c.ps.getD i Qa).ns),Qxp hj];exact Qxy ..
 rw [e]
theorem Qej {c:ConfS} {i:Nat} (hi:i < c.ps.length):WY (c.ps.take (i+1))=WY (c.ps.take i)++Vx (c.ps.getD i Qa):=by
 rw [Qxw hi];unfold WY;rw [QxN,Qxo,Qxp hi];simp
theorem Qur {c:ConfS} {i j:Nat} (hi:i < c.ps.length) (hj:(c.ps.getD i Qa).ns.length<=j):tij c i j=trN (WY (c.ps.take (i+1))):=by
 unfold tij;rw [List.take_of_length_le (l:=Vx (c.ps.getD i Qa)) (by rw [Jr];exact hj),Qej hi]
theorem Qus {c:ConfS} (h:ConfOk c) {i j:Nat} (hi:i < c.ps.length) (hj:j < (c.ps.getD i Qa).ns.length):Qco (trC c) ((c.ps.getD i Qa).ns.getD j [])=((c.ps.getD i Qa).k,0):=by
 have t:=QkZ h;refine Qwu t.wf ((t.has _ _).2 ?_);refine QxH.2 ⟨c.ps.getD i Qa,?_,QxP.2 ⟨_,?_,rfl⟩⟩
 ·rw [Qxo,Qxp hi];exact Qxx hi
 ·rw [Qxo (l:=(c.ps.getD i Qa).ns),Qxp hj];exact Qxx hj
end
section
open Go.Lib
theorem QfB:∀ a b:List UInt8,(Op.bytesLess b a=false/\b≠a)↔cbK a b < 0
 | [],[]=>⟨fun h=>absurd rfl h.2,fun h=>absurd (show (0:Int) < 0 from h) (by decide)⟩
 | [],_::_=>⟨fun _=>(by decide:(-1:Int) < 0),fun _=>⟨by simp [Op.bytesLess],by simp⟩⟩
 | _::_,[]=>⟨fun h=>absurd h.1 (by simp [Op.bytesLess]),fun h=>absurd (show (1:Int) < 0 from h) (by decide)⟩
 | a::x,b::y=>by
  have ih:=QfB x y;have e:cbK (a::x) (b::y)=(if a < b then (-1:Int) else if b < a then 1 else cbK x y):=rfl;have lt:∀ x y:UInt8,x < y↔x.toNat < y.toNat:=fun x y=>QxL;rw [e];unfold Op.bytesLess;rw [QxM];by_cases h1:a < b
  ·rw [if_pos h1];have hn:¬ b < a:=fun h=>by rw [lt] at h h1;omega
   have hne:b≠a:=fun h=>by subst h;rw [lt] at h1;omega
   have hb:(b == a)=false:=by simp [hne]
   refine ⟨fun _=>by decide,fun _=>⟨⟨decide_eq_false hn,by rw [hb];rfl⟩,fun h=>hne (List.cons.inj h).1⟩⟩
  ·rw [if_neg h1];by_cases h2:b < a
   ·rw [if_pos h2];exact ⟨fun h=>absurd (of_decide_eq_false h.1.1) (fun k=>k h2),fun h=>absurd h (by decide)⟩
   ·rw [if_neg h2,<- ih]
    have e:a=b:=by
     apply UInt8.toNat_inj.1;rw [lt] at h1 h2;omega
    subst e;simp
theorem QwX {a b:List UInt8} (h:¬ cbK a b < 0) (hn:a≠b):cbK b a < 0:=by
 rw [<- QfB] at h ⊢;refine ⟨?_,hn⟩
 cases q:Op.bytesLess a b with
 | false=>rfl
 | true =>
  exfalso;refine h ⟨?_,hn.symm⟩
  have:∀ x y:List UInt8,Op.bytesLess x y=true->Op.bytesLess y x=false:=by
   intro x
   induction x with
   | nil=>intro y _;cases y <;> simp [Op.bytesLess]
   | cons a x ih =>
    intro y
    cases y with
    | nil=>intro h;simp [Op.bytesLess] at h
    | cons b y =>
     intro h;have lt:∀ x y:UInt8,x < y↔x.toNat < y.toNat:=fun x y=>QxL;unfold Op.bytesLess at h ⊢;rw [Bool.or_eq_true,decide_eq_true_iff,Bool.and_eq_true] at h;rw [QxM];rcases h with h | ⟨h,k⟩
     ·have hn:¬ b < a:=fun q=>by rw [lt] at h q;omega
      have hne:(b == a)=false:=by
       have:b≠a:=fun q=>by subst q;rw [lt] at h;omega
       simp [this]
      exact ⟨decide_eq_false hn,by rw [hne];rfl⟩
     ·have e:a=b:=by simpa using h
      subst e;have hn:¬ a < a:=fun q=>by rw [lt] at q;omega
      exact ⟨decide_eq_false hn,by rw [ih y k];simp⟩
  exact this a b q
theorem Qjg {p q:PeerS}:Qeg p q↔cbK p.k q.k < 0:=QfB p.k q.k
theorem Z1 {ps:List PeerS}:ps.Pairwise Qeg↔Z3 ps:=by
 unfold Z3;constructor
 ·exact fun h=>h.imp fun k=>Qjg.1 k
 ·exact fun h=>h.imp fun k=>Qjg.2 k
theorem Qa2 {ps qs:List PeerS} (h:qs.map (·.k)=ps.map (·.k)) (hp:ps.Pairwise Qeg):qs.Pairwise Qeg:=by
 rw [Z1] at hp ⊢;have e:∀ l:List PeerS,Z3 l↔(l.map (·.k)).Pairwise fun a b=>cbK a b < 0:=fun l=>by unfold Z3;rw [List.pairwise_map]
 rw [e] at hp ⊢;rw [h];exact hp
theorem Y3 (ps:List PeerS) (k:List UInt8):(Qq ps k = -1 /\ ∀ p∈ps,p.k≠k)\/∃ i,i < ps.length/\Qq ps k=(i:Int)/\(ps.getD i Qa).k=k:=by
 by_cases h:k∈ps.map (·.k)
 ·right;have h1:=List.idxOf_lt_length_of_mem h;have h2:(ps.map (·.k)).idxOf k < ps.length:=by simpa using h1
  refine ⟨(ps.map (·.k)).idxOf k,h2,by unfold Qq;rw [if_pos h],?_⟩;have g:=List.getElem_idxOf h1;rw [Qxy] at g;rw [Qxo,Qxp h2];exact g
 ·left;exact ⟨by unfold Qq;rw [if_neg h],fun p hp e=>h (e ▸ List.mem_map_of_mem hp)⟩
theorem X6 {ps:List PeerS} {k:List UInt8} (h:Qq ps k = -1):∀ p∈ps,p.k≠k:=by
 rcases Y3 ps k with q | ⟨i,_,e,_⟩
 ·exact q.2
 ·omega
theorem QoF {ps:List PeerS} {k:List UInt8} (h:¬ Qq ps k = -1):∃ i,i < ps.length/\Qq ps k=(i:Int)/\(ps.getD i Qa).k=k:=by
 rcases Y3 ps k with q | q
 ·exact absurd q.1 h
 ·exact q
theorem Zy {ps:List PeerS} {i:Nat} (hi:i < ps.length):ps.getD i Qa∈ps:=by
 rw [Qxo,Qxp hi];exact Qxx hi
theorem ZE {c:ConfS} (h:ConfOk c):PsOk c.ps:=by
 have g:∀ a,(c.ps.getD a Qa∈c.ps)\/c.ps.getD a Qa=Qa:=fun a=>by
  by_cases q:a < c.ps.length
  ·exact .inl (Zy q)
  ·right;rw [Qxo,List.getElem?_eq_none (by omega)];rfl
 refine ⟨h.pl,fun a=>?_,fun a x hx=>?_,fun a=>?_⟩
 ·rcases g a with q | q
  ·exact (h.ps _ q).1.nl
  ·rw [q];decide
 ·rcases g a with q | q
  ·exact (h.ps _ q).1.nb x hx
  ·rw [q] at hx;cases hx
 ·rcases g a with q | q
  ·exact (h.ps _ q).1.ns
  ·rw [q];exact Qxt
abbrev QuP:=ConfS×List UInt8×Int
def WW:ConfS:=⟨[],0,[]⟩
def noS (e:Int):QuP:=(WW,[],e)
def VB (c:ConfS) (i:Nat) (p:PeerS):ConfS:=⟨c.k,c.port,c.ps.set i p⟩
def QQ (k:List UInt8) (ps:List PeerS):List PeerS:=ps.filter fun p=>!decide (p.k=k)
def Qjh (c:ConfS) (k:List UInt8):ConfS:=⟨c.k,c.port,Xy c.ps (lbP c.ps k) ⟨k,[],[],0,[]⟩⟩
def Zn (c:ConfS) (i:Nat) (n:List Bool):Prop:=((psD c.ps n c.ps.length).getD i Qa).ns.length=8
instance (c:ConfS) (i:Nat) (n:List Bool):Decidable (Zn c i n):=by unfold Zn;exact inferInstance
def Qk9 (c:ConfS) (at_:List UInt8) (i:Nat) (s:SetS):QuP :=
 if s.k=5 then (⟨c.k,c.port,QQ at_ c.ps⟩,[],0)
 else if s.k=6 then (VB c i ⟨(c.ps.getD i Qa).k,s.t,(c.ps.getD i Qa).e,(c.ps.getD i Qa).a,(c.ps.getD i Qa).ns⟩,at_,0)
 else if s.k=7 then (VB c i ⟨(c.ps.getD i Qa).k,(c.ps.getD i Qa).s,s.t,(c.ps.getD i Qa).a,(c.ps.getD i Qa).ns⟩,at_,0)
 else if s.k=8 then (VB c i ⟨(c.ps.getD i Qa).k,(c.ps.getD i Qa).s,(c.ps.getD i Qa).e,s.n,(c.ps.getD i Qa).ns⟩,at_,0)
 else if s.k=9 then (VB c i ⟨(c.ps.getD i Qa).k,(c.ps.getD i Qa).s,(c.ps.getD i Qa).e,(c.ps.getD i Qa).a,[]⟩,at_,0)
 else if Zn c i s.p then noS 7 else (⟨c.k,c.port,Qh c.ps i s.p⟩,at_,0)
def WX (c:ConfS) (at_:List UInt8) (s:SetS):QuP :=
 if s.k=1 then (if Qq c.ps s.t = -1 then (⟨s.t,c.port,c.ps⟩,[],0) else noS 14)
 else if s.k=2 then (⟨c.k,s.n,c.ps⟩,[],0)
 else if s.k=3 then (⟨c.k,c.port,[]⟩,[],0)
 else if s.k=4 then (if s.t=c.k then noS 14 else if ¬ Qq c.ps s.t = -1 then (c,s.t,0) else if c.ps.length=6 then noS 7 else (Qjh c s.t,s.t,0))
 else if at_=[]\/Qq c.ps at_ = -1 then noS 13
 else Qk9 c at_ (Qq c.ps at_).toNat s
theorem Qa3:∀ (ps:List PeerS) (i:Nat) (p:PeerS),p.ns.Sublist (ps.getD i Qa).ns->((ps.set i p).flatMap (·.ns)).Sublist (ps.flatMap (·.ns))
 | [],_,_,_=>Qxs _
 | q::ps,0,p,h=>by
  show ((p::ps).flatMap (·.ns)).Sublist _;rw [Qxq,Qxq];exact QxC h (Qxs _)
 | q::ps,i+1,p,h=>by
  show ((q::ps.set i p).flatMap (·.ns)).Sublist _;rw [Qxq,Qxq];exact QxC (Qxs _) (Qa3 ps i p h)
theorem QmZ {ps:List PeerS} {i:Nat} {p:PeerS} (h:p.k=(ps.getD i Qa).k):(ps.set i p).map (·.k)=ps.map (·.k):=by
 rw [List.map_set];by_cases q:i < ps.length
 ·rw [h,Qxo,Qxp q];have hq:i < (ps.map (·.k)).length:=by simpa using q
  have h0:(ps.map (·.k)).set i (ps.map (·.k))[i]=ps.map (·.k):=List.set_getElem_self hq;rw [Qxy] at h0;exact h0
 ·rw [List.set_eq_of_length_le (by simpa using q)]
theorem Qa4 {c:ConfS} (h:ConfOk c) {i:Nat} (hi:i < c.ps.length) {p:PeerS} (hp:PeerOk p) (hk:p.k=(c.ps.getD i Qa).k) (hns:p.ns.Sublist (c.ps.getD i Qa).ns):ConfOk (VB c i p):=by
 refine ⟨h.k,h.port,?_,fun q hq=>?_,Qa2 (QmZ hk) h.inc,h.nd.sublist (Qa3 _ _ _ hns)⟩
 ·show (c.ps.set i p).length<=6;rw [List.length_set];exact h.pl
 ·rcases QxG hq with k | k
  ·exact h.ps q k
  ·subst k;refine ⟨hp,?_⟩;show q.k≠c.k;rw [hk];exact (h.ps _ (Zy hi)).2
theorem QfC (ps:List PeerS) (k:Nat) (p:PeerS):(Xy ps k p).Perm (p::ps):=by
 have:=(Qxz (a:=p) (l₁:=ps.take k) (l₂:=ps.drop k));rw [Qxv] at this;exact this
theorem Qla {q:PeerS} {ps:List PeerS} {k:List UInt8} (h:cbK q.k k < 0):lbP (q::ps) k=lbP ps k+1:=by
 unfold lbP;rw [QxI (by simpa using h)]
theorem Qlb {q:PeerS} {ps:List PeerS} {k:List UInt8} (hi:Z3 (q::ps)) (h:¬ cbK q.k k < 0):lbP (q::ps) k=0:=by
 unfold lbP;rw [QxO];intro x hx;rcases Qxu.1 hx with rfl | hx
 ·simpa using h
 ·intro k2;exact h (X4 ((Qxr.1 hi).1 x hx) (by simpa using k2))
theorem Qji:∀ {ps:List PeerS} {p:PeerS},Z3 ps->(∀ q∈ps,q.k≠p.k)->Z3 (Xy ps (lbP ps p.k) p)
 | [],p,_,_=>QxJ _ _
 | q::ps,p,h,hn=>by
  obtain ⟨h1,h2⟩:=Qxr.1 h;by_cases k:cbK q.k p.k < 0
  ·rw [Qla k];show Z3 (q::Xy ps (lbP ps p.k) p);refine Qxr.2 ⟨fun x hx=>?_,Qji h2 fun x hx=>hn x (QxB _ hx)⟩;rcases Qxu.1 ((QfC ps _ p).mem_iff.1 hx) with e | e
   ·rw [e];exact k
   ·exact h1 x e
  ·rw [Qlb h k];show Z3 (p::q::ps);have pq:cbK p.k q.k < 0:=QwX k (hn q (QxE ..));refine Qxr.2 ⟨fun x hx=>?_,h⟩;rcases Qxu.1 hx with e | e
   ·rw [e];exact pq
   ·exact X4 pq (h1 x e)
theorem QoG {ps qs:List PeerS} (h:ps.Perm qs):(ps.flatMap (·.ns)).Perm (qs.flatMap (·.ns)):=h.flatMap_right _
theorem Qm0 {c:ConfS} (h:ConfOk c) {k:List UInt8} (hk:ZX k=0) (hn:k≠c.k) (hi:Qq c.ps k = -1) (hl:¬ c.ps.length=6):ConfOk (Qjh c k):=by
 have hpl:=h.pl;have pm:=QfC c.ps (lbP c.ps k) ⟨k,[],[],0,[]⟩;refine ⟨h.k,h.port,?_,fun q hq=>?_,?_,?_⟩
 ·show (Xy c.ps (lbP c.ps k) ⟨k,[],[],0,[]⟩).length<=6;rw [pm.length_eq];show c.ps.length+1<=6;omega
 ·rcases Qxu.1 (pm.mem_iff.1 hq) with e | e
  ·subst e;exact ⟨⟨hk,.inl rfl,.inl rfl,⟨Int.le_refl _,(by decide:(0:Int)<=65535)⟩,(by decide:0<=8),fun n hn=>(by cases hn),Qxt⟩,hn⟩
  ·exact h.ps q e
 ·exact Z1.2 (Qji (p:=⟨k,[],[],0,[]⟩) (Z1.1 h.inc) (X6 hi))
 ·exact ((QoG pm).nodup_iff).2 h.nd
theorem QcL (ps:List PeerS) (n:List Bool):psD ps n ps.length=ps.map (Zd n):=by
 unfold psD;rw [List.take_length,List.drop_length,List.append_nil]
theorem Qa5 (n:List Bool):∀ ps:List PeerS,(ps.map (Zd n)).flatMap (·.ns)=QH (ps.flatMap (·.ns)) n
 | []=>rfl
 | p::ps=>by
  rw [List.map_cons,Qxq,Qxq,Qa5 n ps];unfold QH;rw [List.filter_append];rfl
theorem QwY {c:ConfS} (h:ConfOk c) (n:List Bool):ConfOk ⟨c.k,c.port,c.ps.map (Zd n)⟩:=by
 refine ⟨h.k,h.port,?_,fun q hq=>?_,?_,?_⟩
 ·show (c.ps.map (Zd n)).length<=6;rw [QxA];exact h.pl
 ·obtain ⟨p,hp,rfl⟩:=QxP.1 hq;obtain ⟨k,kn⟩:=h.ps p hp;exact ⟨⟨k.k,k.s,k.e,k.a,QxQ (Qg1 _ _) k.nl,fun x hx=>k.nb x (Qjf hx),k.ns.filter _⟩,kn⟩
 ·exact Qa2 (by rw [List.map_map];rfl) h.inc
 ·show ((c.ps.map (Zd n)).flatMap (·.ns)).Nodup;rw [Qa5];exact h.nd.filter _
theorem Qa6 (n:List Bool) (k:Nat):∀ (ps:List PeerS) (i:Nat) (p:PeerS),i < ps.length->p.ns=J3 (ps.getD i Qa).ns k n->((ps.set i p).flatMap (·.ns)).Perm (n::ps.flatMap (·.ns))
 | [],_,_,h,_=>absurd h (Nat.not_lt_zero _)
 | q::ps,0,p,_,h=>by
  show ((p::ps).flatMap (·.ns)).Perm _;rw [Qxq,Qxq,h,<- List.cons_append];refine List.Perm.append_right _ ?_;have:=(Qxz (a:=n) (l₁:=q.ns.take k) (l₂:=q.ns.drop k));rw [Qxv] at this;exact this
 | q::ps,i+1,p,hi,h=>by
  show ((q::ps.set i p).flatMap (·.ns)).Perm _;rw [Qxq,Qxq];exact ((Qa6 n k ps i p (Nat.lt_of_succ_lt_succ hi) h).append_left q.ns).trans Qxz
theorem Qlc {q:List Bool} {ns:List (List Bool)} {n:List Bool} (h:ltB q n=true):lbN (q::ns) n=lbN ns n+1:=by
 unfold lbN;rw [QxI (by simpa using h)]
theorem Qld {q:List Bool} {ns:List (List Bool)} {n:List Bool} (hi:Y2 (q::ns)) (h:ltB q n=false):lbN (q::ns) n=0:=by
 unfold lbN;rw [QxO];intro x hx;rcases Qxu.1 hx with rfl | hx
 ·rw [h];decide
 ·intro k2;rw [X0 ((Qxr.1 hi).1 x hx) k2] at h;cases h
theorem QfD:∀ {ns:List (List Bool)} {n:List Bool},Y2 ns->n ∉ ns->(∀ x∈ns,x.length<=32)->n.length<=32->Y2 (J3 ns (lbN ns n) n)
 | [],n,_,_,_,_=>QxJ _ _
 | q::ns,n,h,hn,hb,h32=>by
  obtain ⟨h1,h2⟩:=Qxr.1 h;rw [Qxu,not_or] at hn
  cases k:ltB q n with
  | true =>
   rw [Qlc k];show Y2 (q::J3 ns (lbN ns n) n);refine Qxr.2 ⟨fun x hx=>?_,QfD h2 hn.2 (fun x hx=>hb x (QxB _ hx)) h32⟩;have pm:=(Qxz (a:=n) (l₁:=ns.take (lbN ns n)) (l₂:=ns.drop (lbN ns n)));rw [Qxv] at pm;rcases Qxu.1 (pm.mem_iff.1 hx) with e | e
   ·rw [e];exact k
   ·exact h1 x e
  | false =>
   rw [Qld h k];show Y2 (n::q::ns);have pq:ltB n q=true:=QmH (hb q (QxE ..)) (fun e=>hn.1 e.symm) k;refine Qxr.2 ⟨fun x hx=>?_,h⟩;rcases Qxu.1 hx with e | e
   ·rw [e];exact pq
   ·exact X0 pq (h1 x e)
theorem Qjj {c:ConfS} (h:ConfOk c) {i:Nat} (hi:i < c.ps.length) {n:List Bool} (hn:n.length<=32) (hf:¬ Zn c i n):ConfOk ⟨c.k,c.port,Qh c.ps i n⟩:=by
 have d:=QwY h n;unfold Zn at hf;rw [QcL] at hf;have hi2:i < (c.ps.map (Zd n)).length:=by rw [QxA];exact hi
 obtain ⟨po,pk⟩:=d.ps _ (Zy hi2);have h8:=po.nl
 have hnn:n ∉ ((c.ps.map (Zd n)).getD i Qa).ns:=fun hm=>by
  have:n∈(c.ps.map (Zd n)).flatMap (·.ns):=QxH.2 ⟨_,Zy hi2,hm⟩;rw [Qa5] at this;simpa using (List.mem_filter.1 this).2
 have hlb:=J5 ((c.ps.map (Zd n)).getD i Qa).ns n;unfold Qh;rw [QcL];refine ⟨h.k,h.port,?_,fun q hq=>?_,?_,?_⟩
 ·show ((c.ps.map (Zd n)).set i _).length<=6;rw [List.length_set];exact d.pl
 ·rcases QxG hq with k | k
  ·exact d.ps q k
  ·subst k;refine ⟨⟨po.k,po.s,po.e,po.a,?_,fun x hx=>?_,QfD po.ns hnn po.nb hn⟩,pk⟩
   ·show (J3 ((c.ps.map (Zd n)).getD i Qa).ns (lbN ((c.ps.map (Zd n)).getD i Qa).ns n) n).length<=8;rw [Qjb hlb];show ((c.ps.map (Zd n)).getD i Qa).ns.length+1<=8;have h8':((c.ps.map (Zd n)).getD i Qa).ns.length<=8:=h8;omega
   ·have pm:=(Qxz (a:=n) (l₁:=((c.ps.map (Zd n)).getD i Qa).ns.take (lbN ((c.ps.map (Zd n)).getD i Qa).ns n)) (l₂:=((c.ps.map (Zd n)).getD i Qa).ns.drop (lbN ((c.ps.map (Zd n)).getD i Qa).ns n)));rw [Qxv] at pm;rcases Qxu.1 (pm.mem_iff.1 hx) with e | e
    ·rw [e];exact hn
    ·exact po.nb x e
 ·exact Qa2 (QmZ rfl) d.inc
 ·refine ((Qa6 n (lbN ((c.ps.map (Zd n)).getD i Qa).ns n) _ i _ hi2 rfl).nodup_iff).2 ?_;refine List.nodup_cons.2 ⟨fun hm=>?_,d.nd⟩;rw [Qa5] at hm;simpa using (List.mem_filter.1 hm).2
theorem QuQ {c:ConfS} (h:ConfOk c) (k:List UInt8):ConfOk ⟨c.k,c.port,QQ k c.ps⟩:=by
 have sl:(QQ k c.ps).Sublist c.ps:=List.filter_sublist;refine ⟨h.k,h.port,QxQ sl.length_le h.pl,fun q hq=>h.ps q (sl.subset hq),h.inc.sublist sl,h.nd.sublist ?_⟩
 have:∀ {a b:List PeerS},a.Sublist b->(a.flatMap (·.ns)).Sublist (b.flatMap (·.ns)):=by
  intro a b h
  induction h with
  | slnil=>exact Qxs _
  | cons x _ ih=>rw [Qxq];exact ih.trans (List.sublist_append_right _ _)
  | cons_cons x _ ih=>rw [Qxq,Qxq];exact QxC (Qxs _) ih
 exact this sl
def QrL (k:List UInt8):Prop:=k=[]\/ZX k=0
def QT (s:SetS):Prop:=Zc s=0/\s.p.length<=32
theorem Qer:ConfOk WW:=⟨.inl rfl,⟨by decide,by decide⟩,by decide,fun p h=>(by cases h),Qxt,Qxt⟩
theorem Qm1 {c:ConfS} {a:List UInt8} {s:SetS} (h:ConfOk c) (ha:QrL a) (hs:QT s):ConfOk (WX c a s).1/\QrL (WX c a s).2.1:=by
 obtain ⟨k1,k2,k3,k4,k5,k6,k7,k8,k9⟩:=Xo hs.1;have n0:∀ e,ConfOk (noS e).1/\QrL (noS e).2.1:=fun e=>⟨Qer,.inl rfl⟩;unfold WX;by_cases e1:s.k=1
 ·rw [if_pos e1];by_cases q:Qq c.ps s.t = -1
  ·rw [if_pos q];exact ⟨⟨.inr (k6 (.inl e1)),h.port,h.pl,fun p hp=>⟨(h.ps p hp).1,X6 q p hp⟩,h.inc,h.nd⟩,.inl rfl⟩
  ·rw [if_neg q];exact n0 _
 rw [if_neg e1];by_cases e2:s.k=2
 ·rw [if_pos e2];exact ⟨⟨h.k,k9 (Yn.2 (.inl e2)),h.pl,h.ps,h.inc,h.nd⟩,.inl rfl⟩
 rw [if_neg e2];by_cases e3:s.k=3
 ·rw [if_pos e3];exact ⟨⟨h.k,h.port,Nat.zero_le _,fun p hp=>(by cases hp),Qxt,Qxt⟩,.inl rfl⟩
 rw [if_neg e3];by_cases e4:s.k=4
 ·rw [if_pos e4];have hx:=k6 (.inr e4);by_cases q:s.t=c.k
  ·rw [if_pos q];exact n0 _
  rw [if_neg q];by_cases q2:Qq c.ps s.t = -1
  ·rw [if_neg (not_not_intro q2)];by_cases q3:c.ps.length=6
   ·rw [if_pos q3];exact n0 _
   ·rw [if_neg q3];exact ⟨Qm0 h hx q q2 q3,.inr hx⟩
  ·rw [if_pos q2];exact ⟨h,.inr hx⟩
 rw [if_neg e4];by_cases q:a=[]\/Qq c.ps a = -1
 ·rw [if_pos q];exact n0 _
 rw [if_neg q];rw [not_or] at q;obtain ⟨i,hi,ei,ek⟩:=QoF q.2;rw [ei,Int.toNat_natCast];obtain ⟨po,pk⟩:=h.ps _ (Zy hi);unfold Qk9;by_cases e5:s.k=5
 ·rw [if_pos e5];exact ⟨QuQ h a,.inl rfl⟩
 rw [if_neg e5];by_cases e6:s.k=6
 ·rw [if_pos e6];exact ⟨Qa4 h hi ⟨po.k,k7 e6,po.e,po.a,po.nl,po.nb,po.ns⟩ rfl (Qxs _),ha⟩
 rw [if_neg e6];by_cases e7:s.k=7
 ·rw [if_pos e7];exact ⟨Qa4 h hi ⟨po.k,po.s,.inr (k8 e7),po.a,po.nl,po.nb,po.ns⟩ rfl (Qxs _),ha⟩
 rw [if_neg e7];by_cases e8:s.k=8
 ·rw [if_pos e8];exact ⟨Qa4 h hi ⟨po.k,po.s,po.e,k9 (Yn.2 (.inr e8)),po.nl,po.nb,po.ns⟩ rfl (Qxs _),ha⟩
 rw [if_neg e8];by_cases e9:s.k=9
 ·rw [if_pos e9];exact ⟨Qa4 h hi ⟨po.k,po.s,po.e,po.a,Nat.zero_le _,fun n hn=>(by cases hn),Qxt⟩ rfl (List.nil_sublist _),ha⟩
 rw [if_neg e9];by_cases q4:Zn c i s.p
 ·rw [if_pos q4];exact n0 _
 ·rw [if_neg q4];exact ⟨Qjj h hi hs.2 q4,ha⟩
def Qjk (c:ConfS) (a:List UInt8) (i:Nat):List SetS->ConfS×Int×Int
 | []=>(c,0,0)
 | s::l=>if (WX c a s).2.2=0 then Qjk (WX c a s).1 (WX c a s).2.1 (i+1) l else (WW,(i:Int)+1,(WX c a s).2.2)
def Qes (c:ConfS) (L:List SetS):ConfS×Int×Int:=Qjk c [] 0 L
def Yg (c:ConfS) (L:List SetS):Nat->QuP
 | 0=>(c,[],0)
 | i+1=>WX (Yg c L i).1 (Yg c L i).2.1 (L.getD i QS)
theorem Qm2 {c:ConfS} {L:List SetS} {i:Nat} (h:i < L.length):Qjk (Yg c L i).1 (Yg c L i).2.1 i (L.drop i) =
  if (Yg c L (i+1)).2.2=0 then Qjk (Yg c L (i+1)).1 (Yg c L (i+1)).2.1 (i+1) (L.drop (i+1)) else (WW,(i:Int)+1,(Yg c L (i+1)).2.2):=by
 rw [QxF h];have e:L.getD i QS=L[i]:=by rw [Qxo,Qxp h];rfl
 show (if (WX (Yg c L i).1 (Yg c L i).2.1 L[i]).2.2=0 then _ else _)=_;rw [<- e];rfl
theorem Qg2 {c:ConfS} {L:List SetS} (h:ConfOk c) (hL:∀ s∈L,QT s):∀ i,i<=L.length->ConfOk (Yg c L i).1/\QrL (Yg c L i).2.1
 | 0,_=>⟨h,.inl rfl⟩
 | i+1,hi=>by
  obtain ⟨a,b⟩:=Qg2 h hL i (by omega);refine Qm1 a b (hL _ ?_);rw [Qxo,Qxp (by omega)];exact Qxx _
end
end Go.Proofs.YtcebndkiagbddaaGreatDoor
