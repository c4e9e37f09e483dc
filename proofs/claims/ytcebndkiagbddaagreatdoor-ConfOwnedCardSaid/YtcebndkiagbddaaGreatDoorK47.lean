/- A part of the proof: contracts of functions and what they stand on. Written shorter and merged by a program (pack.py). -/
import Derived.Test.YtcebndkiagbddaaGreatDoorK44
set_option linter.unusedVariables false
set_option linter.unusedSimpArgs false
set_option maxRecDepth 100000
set_option maxHeartbeats 4000000
open List renaming pairwise_cons -> Qxo, mem_cons_self -> Qxp, mem_cons -> Qxq, getD_eq_getElem?_getD -> Qxr, mem_cons_of_mem -> Qxt, length_cons -> Qxw
open List.Sublist renaming refl -> Qxs
open Option renaming some -> Qxu
namespace Go.Proofs.YtcebndkiagbddaaGreatDoor
section
open Go.RowKit Go.Lib Tr
theorem QuF {k:List UInt8} (h:ZX k=0):k≠[]:=fun e=>by rw [e] at h;exact absurd h (by decide)
theorem Qrs {c:ConfS} (h:ConfOk c):Cf Tryz.prog 17 [] [Qn c] [] (.tup [Qj (trC c).flat,.i 0]):=by
 have hpl:=h.pl;refine Qr {} Tryz.func17 Tryz.ntmps17 ?_;refine clX (Qf h) ?_
 repeat refine o2 ?_
 refine knF ?_;refine ⟨Nat,fun i=>⟨[(5,Qj (tij c i 0).flat),(16,Ws c.ps),(17,.i (c.ps.length:Int)),(18,.i (i:Int))],[]⟩,fun i=>i<=c.ps.length,fun i=>c.ps.length - i,0,Nat.zero_le _,?_,fun i hx1=>?_⟩
 ·skip
  repeat refine o2 ?_
  trivial
 refine ⟨fun h2=>?_,fun h2=>?_⟩
 ·skip
  have c2:=h2
  (simp only [bsX] at c2)
  have hi:i < c.ps.length:=by omega
  have hp:=(h.ps _ (Z0 hi)).1;have hnl:=hp.nl
  repeat refine o3 ?_
  refine ⟨Nat,fun j=>⟨[(5,Qj (tij c i j).flat),(16,Ws c.ps),(17,.i (c.ps.length:Int)),(18,.i (i:Int)),(7,.own 1007 0),(23,Wm (c.ps.getD i Qa).ns),(24,.i ((c.ps.getD i Qa).ns.length:Int)),(25,.i (j:Int))],[(1007,.box [.s (c.ps.getD i Qa).k,.s (c.ps.getD i Qa).s,.s (c.ps.getD i Qa).e,.i (c.ps.getD i Qa).a,Wm (c.ps.getD i Qa).ns] 33)]⟩,fun j=>j<=(c.ps.getD i Qa).ns.length,fun j=>(c.ps.getD i Qa).ns.length - j,0,Nat.zero_le _,?_,fun j hx2=>?_⟩
  ·skip
   repeat refine o2 ?_
   trivial
  refine ⟨fun h3=>?_,fun h3=>?_⟩
  ·skip
   have c3:=h3
   (simp only [bsX] at c3)
   have hj:j < (c.ps.getD i Qa).ns.length:=by omega
   have ht:=QwF h hi j;have hput:=QwG (o:=(c.ps.getD i Qa).k) ht.1 (Xs hp j) (QuF hp.k) (Nat.le_trans ht.2 (by decide));rw [<- Qrc hj] at hput
   repeat refine o3 ?_
   refine clX hput ?_
   repeat (refine Ob.mk ?_ ?_;focus (first | (exact fun _ _ _ _=>rfl) | (exact Eq.refl _) | (simp_all;omega)))
   refine Qt (j+1) ?_
   repeat refine o2 ?_
   trivial
  ·skip
   have c3:=h3
   (simp only [bsX] at c3)
   have hE:tij c i j=tij c (i+1) 0:=(Qur hi (by omega)).trans (Qvz c (i+1)).symm
   repeat refine o4 ?_
   refine Qt (i+1) ?_
   repeat (refine Ob.mk ?_ ?_;focus (first | (rw [hE];done) | (rw [hE];exact fun _ _ _ _=>rfl) | (exact fun _ _ _ _=>rfl) | (exact Eq.refl _)))
   trivial
 ·skip
  have c2:=h2
  (simp only [bsX] at c2)
  have hD:tij c i 0=trC c:=by rw [Qvz,List.take_of_length_le (by omega)];rfl
  repeat (refine Ob.mk ?_ ?_;focus (first | (rw [hD];done) | (rw [hD];exact fun _ _ _ _=>rfl) | (exact Eq.refl _)))
  trivial
end
section
open Go.Lib
def Wn (ps:List PeerS) (k:List UInt8):Option PeerS:=ps.find? fun p=>decide (p.k=k)
theorem Qsc (k:List UInt8):Wn [] k=none:=rfl
theorem Xz {p:PeerS} {ps:List PeerS} {k:List UInt8} (h:p.k=k):Wn (p::ps) k=some p:=by
 unfold Wn;rw [List.find?_cons_of_pos (by simpa using h)]
theorem Yy {p:PeerS} {ps:List PeerS} {k:List UInt8} (h:¬ p.k=k):Wn (p::ps) k=Wn ps k:=by
 unfold Wn;rw [List.find?_cons_of_neg (by simpa using h)]
theorem Jy {ps:List PeerS} {k:List UInt8}:Wn ps k=none ↔ ∀ p∈ps,p.k≠k:=by
 unfold Wn;rw [List.find?_eq_none];simp
theorem Jb {ps:List PeerS} {k:List UInt8} {p:PeerS} (h:Wn ps k=some p):p∈ps/\p.k=k:=by
 unfold Wn at h;exact ⟨List.mem_of_find?_eq_some h,by simpa using List.find?_some h⟩
theorem QeB (A B:List PeerS) (k:List UInt8):Wn (A++B) k=(Wn A k).or (Wn B k):=by
 unfold Wn;rw [List.find?_append]
theorem Qsd {p:PeerS} {ps:List PeerS} (h:Z3 (p::ps)):∀ q∈ps,p.k≠q.k:=fun q hq e=>by
 have:=(Qxo.1 h).1 q hq;rw [e] at this;exact (QfB q.k q.k).2 this |>.2 rfl
theorem QcN:∀ {ps:List PeerS},Z3 ps -> ∀ {p:PeerS},p∈ps->Wn ps p.k=some p
 | [],_,p,h=>absurd h (by simp)
 | q::ps,hi,p,h=>by
  rcases Qxq.1 h with e | e
  ·subst e;exact Xz rfl
  ·rw [Yy (Qsd hi p e)];exact QcN (Qxo.1 hi).2 e
theorem QeC {ps:List PeerS} {k:List UInt8}:(Wn ps k=none↔Qq ps k = -1):=by
 rw [Jy];constructor
 ·intro h;rcases Y3 ps k with q | ⟨i,hi,e,e2⟩
  ·exact q.1
  ·exact absurd e2 (h _ (Zy hi))
 ·exact X6
theorem Qu0 {ps:List PeerS} (hp:Z3 ps) {k:List UInt8} {p:PeerS} (h:Wn ps k=some p):∃ i,i < ps.length/\Qq ps k=(i:Int)/\ps.getD i Qa=p:=by
 rcases Y3 ps k with q | ⟨i,hi,e,e2⟩
 ·rw [QeC.2 q.1] at h;cases h
 ·refine ⟨i,hi,e,?_⟩;have:=QcN hp (Zy hi);rw [e2,h] at this;exact (Qxu.inj this).symm
theorem Qw3:∀ {ps qs:List PeerS},Z3 ps->Z3 qs->(∀ k,Wn ps k=Wn qs k)->ps=qs:=fun {ps qs} h1 h2 h=>by
 have sub:∀ {a b:List PeerS},Z3 a->(∀ k,Wn a k=Wn b k) -> ∀ p∈a,p∈b:=fun ha hh p hp=>by
  have:=QcN ha hp;rw [hh] at this;exact (Jb this).1
 have lt_no:∀ p q:PeerS,cbK p.k q.k < 0->cbK q.k p.k < 0->False:=fun p q a b=>(QfB p.k p.k).2 (X4 a b) |>.2 rfl
 have uniq:∀ {ps qs:List PeerS},Z3 ps->Z3 qs->(∀ p∈ps,p∈qs)->(∀ p∈qs,p∈ps)->ps=qs:=by
  intro ps
  induction ps with
  | nil=>intro qs _ _ _ h;cases qs with
   | nil=>rfl
   | cons q qs=>exact absurd (h q (Qxp ..)) (by simp)
  | cons p ps ih =>
   intro qs h1 h2 h3 h4
   cases qs with
   | nil=>exact absurd (h3 p (Qxp ..)) (by simp)
   | cons q qs =>
    obtain ⟨a1,a2⟩:=Qxo.1 h1;obtain ⟨b1,b2⟩:=Qxo.1 h2
    have e:p=q:=by
     rcases Qxq.1 (h3 p (Qxp ..)) with k | k
     ·exact k
     ·rcases Qxq.1 (h4 q (Qxp ..)) with k2 | k2
      ·exact k2.symm
      ·exact absurd (lt_no q p (b1 p k) (a1 q k2)) id
    subst e;rw [ih a2 b2 (fun x hx=>?_) (fun x hx=>?_)]
    ·rcases Qxq.1 (h3 x (Qxt _ hx)) with k | k
     ·subst k;exact absurd (lt_no x x (a1 x hx) (a1 x hx)) id
     ·exact k
    ·rcases Qxq.1 (h4 x (Qxt _ hx)) with k | k
     ·subst k;exact absurd (lt_no x x (b1 x hx) (b1 x hx)) id
     ·exact k
 exact uniq h1 h2 (sub h1 h) (sub h2 fun k=>(h k).symm)
theorem Qse {ps:List PeerS} {p:PeerS} (j:Nat) (hn:∀ q∈ps,q.k≠p.k) (k:List UInt8):Wn (Xy ps j p) k=if k=p.k then some p else Wn ps k:=by
 unfold Xy;rw [QeB];by_cases h:k=p.k
 ·subst h;rw [if_pos rfl,Jy.2 fun q hq=>hn q (List.mem_of_mem_take hq),Xz rfl];rfl
 ·rw [if_neg h,Yy (fun e=>h e.symm),<- QeB,List.take_append_drop]
theorem QeD:∀ {ps:List PeerS} {i:Nat} {p:PeerS},Z3 ps->i < ps.length->p.k=(ps.getD i Qa).k -> ∀ k,Wn (ps.set i p) k=if k=p.k then some p else Wn ps k
 | [],i,p,_,hi,_,_=>absurd hi (Nat.not_lt_zero _)
 | q::ps,0,p,hi,_,hk,k=>by
  show Wn (p::ps) k=_;by_cases h:k=p.k
  ·subst h;rw [if_pos rfl,Xz rfl]
  ·have hq:p.k=q.k:=hk;rw [if_neg h,Yy (fun e=>h e.symm),Yy (fun e=>h (by rw [<- e,hq]))]
 | q::ps,i+1,p,hi,hl,hk,k=>by
  show Wn (q::ps.set i p) k=_;have hl2:i < ps.length:=Nat.lt_of_succ_lt_succ hl;have hk2:p.k=(ps.getD i Qa).k:=hk;have ih:=QeD (Qxo.1 hi).2 hl2 hk2 k;by_cases h:q.k=k
  ·have hne:¬ k=p.k:=fun e=>Qsd hi _ (Zy hl2) (by rw [h,e,hk2]);rw [Xz h,if_neg hne,Xz h]
  ·rw [Yy h,ih,Yy h]
theorem Qo1 (a:List UInt8):∀ (ps:List PeerS) (k:List UInt8),Wn (QQ a ps) k=if k=a then none else Wn ps k
 | [],k=>by split <;> rfl
 | p::ps,k=>by
  have ih:=Qo1 a ps k;unfold QQ at ih ⊢;by_cases h:p.k=a
  ·rw [List.filter_cons_of_neg (by simpa using h),ih];by_cases e:k=a
   ·rw [if_pos e,if_pos e]
   ·rw [if_neg e,if_neg e,Yy (fun q=>e (q.symm.trans h))]
  ·rw [List.filter_cons_of_pos (by simpa using h)];by_cases q:p.k=k
   ·rw [Xz q,if_neg (fun e=>h (q.trans e)),Xz q]
   ·rw [Yy q,ih,Yy q]
theorem QjD (n:List Bool):∀ (ps:List PeerS) (k:List UInt8),Wn (ps.map (Zd n)) k=(Wn ps k).map (Zd n)
 | [],k=>rfl
 | p::ps,k=>by
  rw [List.map_cons];by_cases h:p.k=k
  ·rw [Xz (p:=Zd n p) h,Xz h];rfl
  ·rw [Yy (p:=Zd n p) h,Yy h,QjD n ps k]
def QjE (n:List Bool) (p:PeerS):PeerS:=⟨p.k,p.s,p.e,p.a,J3 (QH p.ns n) (lbN (QH p.ns n) n) n⟩
theorem QeE {ps:List PeerS} {i:Nat} (f:PeerS->PeerS) (hi:i < ps.length):(ps.map f).getD i Qa=f (ps.getD i Qa):=by
 rw [Qxr,Qxr,List.getElem?_map,List.getElem?_eq_getElem hi];rfl
theorem Qu1 {ps:List PeerS} (n:List Bool) (h:Z3 ps):Z3 (ps.map (Zd n)):=by
 rw [<- Z1] at h ⊢;exact Qa2 (by rw [List.map_map];rfl) h
theorem Qo2 {ps:List PeerS} {i:Nat} (n:List Bool) (h:Z3 ps) (hi:i < ps.length) (k:List UInt8):Wn (Qh ps i n) k=if k=(ps.getD i Qa).k then some (QjE n (ps.getD i Qa)) else (Wn ps k).map (Zd n):=by
 unfold Qh;rw [QcL,QeE _ hi];have hl:i < (ps.map (Zd n)).length:=by rw [List.length_map];exact hi
 rw [QeD (Qu1 n h) hl (by rw [QeE _ hi]) k,QjD];rfl
theorem Qu2 {n m:List Bool} {p:PeerS}:m∈(Zd n p).ns↔m∈p.ns/\m≠n:=by
 show m∈QH p.ns n↔_;unfold QH;rw [List.mem_filter];simp
theorem Qsf {n:List Bool} {p:PeerS} (h:n ∉ p.ns):Zd n p=p:=by
 have:QH p.ns n=p.ns:=by
  unfold QH;rw [List.filter_eq_self];intro m hm;simp;exact fun e=>h (e ▸ hm)
 unfold Zd;rw [this]
theorem Qu3:∀ {ns:List (List Bool)} {n:List Bool},(∀ m∈ns,ltB m n=true)->lbN ns n=ns.length:=fun {ns n} h=>List.countP_eq_length.2 h
theorem Qu4 {n:List Bool} {p:PeerS} (h:∀ m∈p.ns,ltB m n=true):QjE n p=⟨p.k,p.s,p.e,p.a,p.ns++[n]⟩:=by
 have hn:n ∉ p.ns:=fun hm=>QwE (h n hm) rfl;have e:QH p.ns n=p.ns:=congrArg PeerS.ns (Qsf hn);unfold QjE;rw [e,Qu3 h];unfold J3;rw [List.take_length,List.drop_length]
def goS (c:ConfS) (a:List UInt8):List SetS->Option (ConfS×List UInt8)
 | []=>some (c,a)
 | s::l=>if (WX c a s).2.2=0 then goS (WX c a s).1 (WX c a s).2.1 l else none
theorem Qsg:∀ {L:List SetS} {c c':ConfS} {a a':List UInt8} (i:Nat),goS c a L=some (c',a')->Qjk c a i L=(c',0,0)
 | [],c,c',a,a',i,h=>by
  have:=Qxu.inj h;rw [show c=c' from congrArg Prod.fst this];rfl
 | s::L,c,c',a,a',i,h=>by
  unfold goS at h;unfold Qjk;by_cases q:(WX c a s).2.2=0
  ·rw [if_pos q] at h ⊢;exact Qsg (i+1) h
  ·rw [if_neg q] at h;cases h
theorem J7:∀ {L M:List SetS} {c c':ConfS} {a a':List UInt8},goS c a L=some (c',a')->goS c a (L++M)=goS c' a' M
 | [],M,c,c',a,a',h=>by
  have:=Qxu.inj h;rw [show c=c' from congrArg Prod.fst this,show a=a' from congrArg Prod.snd this];rfl
 | s::L,M,c,c',a,a',h=>by
  rw [List.cons_append];show (if (WX c a s).2.2=0 then goS (WX c a s).1 (WX c a s).2.1 (L++M) else none)=_;have h':(if (WX c a s).2.2=0 then goS (WX c a s).1 (WX c a s).2.1 L else none)=some (c',a'):=h;by_cases q:(WX c a s).2.2=0
  ·rw [if_pos q] at h' ⊢;exact J7 h'
  ·rw [if_neg q] at h';cases h'
theorem QeF {s:SetS} {c c':ConfS} {a a':List UInt8} (h:WX c a s=(c',a',0)):goS c a [s]=some (c',a'):=by
 unfold goS;rw [h];rfl
structure Sem (c:ConfS) (k:List UInt8) (port:Int) (G:List UInt8->Option PeerS):Prop where
 ok:ConfOk c
 k:c.k=k
 port:c.port=port
 at_:∀ x,Wn c.ps x=G x
theorem Sem.eq {c d:ConfS} {k:List UInt8} {port:Int} {G:List UInt8->Option PeerS} (h1:Sem c k port G) (h2:Sem d k port G):c=d:=by
 have e:c.ps=d.ps:=Qw3 (Z1.1 h1.ok.inc) (Z1.1 h2.ok.inc) fun x=>(h1.at_ x).trans (h2.at_ x).symm;obtain ⟨ck,cp,cs⟩:=c;obtain ⟨dk,dp,ds⟩:=d;have a:=h1.k;have b:=h2.k;have a2:=h1.port;have b2:=h2.port;simp only at a b a2 b2 e;rw [a,b,a2,b2,e]
def Jc (G:List UInt8->Option PeerS) (a:List UInt8) (p:PeerS):List UInt8->Option PeerS:=fun x=>if x=a then some p else G x
theorem Qw4 {c:ConfS} {k:List UInt8} {port:Int} {G:List UInt8->Option PeerS} {t a:List UInt8} (h:Sem c k port G) (hx:ZX t=0) (hn:t≠k) (hp:G t=none) (hl:c.ps.length < 6) :
  ∃ d,WX c a ⟨4,t,0,[]⟩=(d,t,0)/\Sem d k port (Jc G t ⟨t,[],[],0,[]⟩):=by
 have e:Qq c.ps t = -1:=QeC.1 (by rw [h.at_,hp]);have hk:t≠c.k:=by rw [h.k];exact hn
 refine ⟨Qjh c t,?_,Qm0 h.ok hx hk e (by omega),h.k,h.port,fun x=>?_⟩
 ·show (if t=c.k then noS 14 else if ¬ Qq c.ps t = -1 then (c,t,0) else if c.ps.length=6 then noS 7 else (Qjh c t,t,0))=_;rw [if_neg hk,if_neg (not_not_intro e),if_neg (by omega)]
 ·show Wn (Xy c.ps (lbP c.ps t) ⟨t,[],[],0,[]⟩) x=_;rw [Qse _ (X6 e),h.at_];rfl
theorem Qg5 {c:ConfS} {k:List UInt8} {port:Int} {G:List UInt8->Option PeerS} {a:List UInt8} {p:PeerS} {s:SetS} (h:Sem c k port G) (ha:a≠[]) (hp:G a=some p) (hs:5<=s.k) :
  ∃ i,i < c.ps.length/\c.ps.getD i Qa=p/\p.k=a/\Qq c.ps a=(i:Int)/\WX c a s=Qk9 c a i s:=by
 have hg:Wn c.ps a=some p:=(h.at_ a).trans hp;obtain ⟨i,hi,e,e2⟩:=Qu0 (Z1.1 h.ok.inc) hg;refine ⟨i,hi,e2,(Jb hg).2,e,?_⟩;unfold WX;rw [if_neg (by omega),if_neg (by omega),if_neg (by omega),if_neg (by omega),if_neg (by rw [e,not_or];exact ⟨ha,by omega⟩),e,Int.toNat_natCast]
theorem Qg6 {c:ConfS} {k:List UInt8} {port:Int} {G:List UInt8->Option PeerS} {i:Nat} {p q:PeerS} (h:Sem c k port G) (hi:i < c.ps.length) (e:c.ps.getD i Qa=p) (hq:PeerOk q) (hk:q.k=p.k) (hns:q.ns.Sublist p.ns):Sem (VB c i q) k port (Jc G p.k q):=by
 refine ⟨Qa4 h.ok hi hq (by rw [e];exact hk) (by rw [e];exact hns),h.k,h.port,fun x=>?_⟩;show Wn (c.ps.set i q) x=_;rw [QeD (Z1.1 h.ok.inc) hi (by rw [e];exact hk),h.at_,hk];rfl
theorem Qly {c:ConfS} {k:List UInt8} {port:Int} {G:List UInt8->Option PeerS} {a:List UInt8} {p:PeerS} (h:Sem c k port G) (hp:G a=some p):PeerOk p/\p.k≠k/\p.k=a:=by
 obtain ⟨m,e⟩:=Jb ((h.at_ a).trans hp);obtain ⟨u,v⟩:=h.ok.ps p m;exact ⟨u,by rw [<- h.k];exact v,e⟩
theorem go_6 {c:ConfS} {k:List UInt8} {port:Int} {G:List UInt8->Option PeerS} {a t:List UInt8} {p:PeerS} (h:Sem c k port G) (ha:a≠[]) (hp:G a=some p) (ht:t=[]\/(t≠W5/\ZX t=0)) :
  ∃ d,WX c a ⟨6,t,0,[]⟩=(d,a,0)/\Sem d k port (Jc G a ⟨p.k,t,p.e,p.a,p.ns⟩):=by
 obtain ⟨i,hi,e,ek,_,eo⟩:=Qg5 (s:=⟨6,t,0,[]⟩) h ha hp (by decide:(5:Int)<=6);obtain ⟨po,_,_⟩:=Qly h hp;refine ⟨_,eo,?_⟩;have:=Qg6 (q:=⟨p.k,t,p.e,p.a,p.ns⟩) h hi e ⟨po.k,ht,po.e,po.a,po.nl,po.nb,po.ns⟩ rfl (Qxs _);rw [ek] at this;rw [e,ek];exact this
theorem go_7 {c:ConfS} {k:List UInt8} {port:Int} {G:List UInt8->Option PeerS} {a t:List UInt8} {p:PeerS} (h:Sem c k port G) (ha:a≠[]) (hp:G a=some p) (ht:t=[]\/Xx t=0) :
  ∃ d,WX c a ⟨7,t,0,[]⟩=(d,a,0)/\Sem d k port (Jc G a ⟨p.k,p.s,t,p.a,p.ns⟩):=by
 obtain ⟨i,hi,e,ek,_,eo⟩:=Qg5 (s:=⟨7,t,0,[]⟩) h ha hp (by decide:(5:Int)<=7);obtain ⟨po,_,_⟩:=Qly h hp;refine ⟨_,eo,?_⟩;have:=Qg6 (q:=⟨p.k,p.s,t,p.a,p.ns⟩) h hi e ⟨po.k,po.s,ht,po.a,po.nl,po.nb,po.ns⟩ rfl (Qxs _);rw [ek] at this;rw [e,ek];exact this
theorem go_8 {c:ConfS} {k:List UInt8} {port:Int} {G:List UInt8->Option PeerS} {a:List UInt8} {n:Int} {p:PeerS} (h:Sem c k port G) (ha:a≠[]) (hp:G a=some p) (hn:0<=n/\n<=65535) :
  ∃ d,WX c a ⟨8,[],n,[]⟩=(d,a,0)/\Sem d k port (Jc G a ⟨p.k,p.s,p.e,n,p.ns⟩):=by
 obtain ⟨i,hi,e,ek,_,eo⟩:=Qg5 (s:=⟨8,[],n,[]⟩) h ha hp (by decide:(5:Int)<=8);obtain ⟨po,_,_⟩:=Qly h hp;refine ⟨_,eo,?_⟩;have:=Qg6 (q:=⟨p.k,p.s,p.e,n,p.ns⟩) h hi e ⟨po.k,po.s,po.e,hn,po.nl,po.nb,po.ns⟩ rfl (Qxs _);rw [ek] at this;rw [e,ek];exact this
theorem go_10 {c:ConfS} {k:List UInt8} {port:Int} {G:List UInt8->Option PeerS} {a:List UInt8} {n:List Bool} {p:PeerS} (h:Sem c k port G) (ha:a≠[]) (hp:G a=some p) (hn:n.length<=32) (hf:¬ (QH p.ns n).length=8) :
  ∃ d,WX c a ⟨10,[],0,n⟩=(d,a,0)/\Sem d k port (fun x=>if x=a then some (QjE n p) else (G x).map (Zd n)):=by
 obtain ⟨i,hi,e,ek,_,eo⟩:=Qg5 (s:=⟨10,[],0,n⟩) h ha hp (by decide:(5:Int)<=10)
 have hnf:¬ Zn c i n:=by
  unfold Zn;rw [QcL,QeE _ hi,e];exact hf
 have eo2:Qk9 c a i ⟨10,[],0,n⟩=(⟨c.k,c.port,Qh c.ps i n⟩,a,0):=by
  show (if Zn c i n then noS 7 else (⟨c.k,c.port,Qh c.ps i n⟩,a,0))=_;rw [if_neg hnf]
 refine ⟨_,eo.trans eo2,Qjj h.ok hi hn hnf,h.k,h.port,fun x=>?_⟩;show Wn (Qh c.ps i n) x=_;rw [Qo2 n (Z1.1 h.ok.inc) hi,e,ek,h.at_]
theorem go_1 {c:ConfS} {k:List UInt8} {port:Int} {G:List UInt8->Option PeerS} {t a:List UInt8} (h:Sem c k port G) (ht:ZX t=0) (hn:G t=none):∃ d,WX c a ⟨1,t,0,[]⟩=(d,[],0)/\Sem d t port G:=by
 have e:Qq c.ps t = -1:=QeC.1 ((h.at_ t).trans hn);refine ⟨⟨t,c.port,c.ps⟩,?_,⟨.inr ht,h.ok.port,h.ok.pl,fun p hp=>⟨(h.ok.ps p hp).1,X6 e p hp⟩,h.ok.inc,h.ok.nd⟩,rfl,h.port,h.at_⟩;show (if Qq c.ps t = -1 then (⟨t,c.port,c.ps⟩,[],0) else noS 14)=_;rw [if_pos e]
theorem go_2 {c:ConfS} {k:List UInt8} {port:Int} {G:List UInt8->Option PeerS} {n:Int} {a:List UInt8} (h:Sem c k port G) (hn:0<=n/\n<=65535):∃ d,WX c a ⟨2,[],n,[]⟩=(d,[],0)/\Sem d k n G :=
 ⟨⟨c.k,n,c.ps⟩,rfl,⟨h.ok.k,hn,h.ok.pl,h.ok.ps,h.ok.inc,h.ok.nd⟩,h.k,rfl,h.at_⟩
end
end Go.Proofs.YtcebndkiagbddaaGreatDoor
