/- A part of the proof: contracts of functions and what they stand on. Written shorter and merged by a program (pack.py). -/
import Derived.Lib.BitFns
import Derived.Lib.ItoaNum
import Derived.Lib.Repeat
import Derived.Test.YtcebndkiagbddaaGreatDoorK44
set_option linter.unusedVariables false
set_option linter.unusedSimpArgs false
set_option maxRecDepth 100000
set_option maxHeartbeats 4000000
open List renaming length_append → Qy3, length_cons → Qy4, length_nil → Qy5, mem_cons_self → Qy7, getD_eq_getElem?_getD → Qy8, mem_cons → Qy9, getElem?_eq_getElem → Qzc, pairwise_cons → Qzd
open Nat renaming zero_add → Qy6, zero_le → Qzb, le_trans → Qze
open Bool renaming and_eq_true → Qza
namespace Go.Proofs.YtcebndkiagbddaaGreatDoor
section
end
section
end
section
theorem Wt (n:Int):WA (QC n)=0:=by obtain ⟨j,h,e,_⟩:=Xb n;rw [e];exact Ys j h
end
section
open Go.RowKit
end
section
open Go.RowKit
theorem YX (n:Int):QC n≠WT:=by obtain ⟨j,h,e,_⟩:=Xb n;rw [e];exact QbW j h
end
section
open Go.RowKit
end
section
open Go.RowKit
end
section
open Go.Lib
instance (c:ConfS) (i:Nat) (n:List Bool):Decidable (Wn c i n):=by unfold Wn;exact inferInstance
theorem Z0:∀ {L:List SetS} {c:ConfS} {a:List UInt8} {i:Nat},ConfOk c→Qb0 a→(∀ s∈L,Qx s)→ConfOk (Yx c a i L).1
 | [],c,a,i,h,_,_=>h
 | s::L,c,a,i,h,ha,hL=>by
  obtain ⟨k1,k2⟩:=Xs h ha (hL s (Qy7 ..));show ConfOk (if (Qi c a s).2.2=0 then Yx (Qi c a s).1 (Qi c a s).2.1 (i+1) L else (Q4,(i:Int)+1,(Qi c a s).2.2)).1;by_cases q:(Qi c a s).2.2=0
  ·rw [if_pos q];exact Z0 k1 k2 fun x hx=>hL x (List.mem_cons_of_mem _ hx)
  ·rw [if_neg q];exact ZG
theorem Xu {c:ConfS} {L:List SetS} (h:ConfOk c) (hL:∀ s∈L,Qx s):ConfOk (ZX c L).1:=Z0 h (.inl rfl) hL
end
section
open Go.RowKit Go.Lib
theorem Cf.resAv {P:Program} {f:FuncId} {hin hout:List (Nat×EB)} {ags:List EV} {r r':EV} (h:r.av=r'.av) (k:Cf P f hin ags hout r):Cf P f hin ags hout r':=by
 unfold Cf Ct at k ⊢;rw [← h];exact k
end
section
open Go.RowKit Go.Lib
def kdR (r:RawS):Int:=if pk r.b 3=0 then (if pk r.a 2=0 then 4 else 10) else 1+pk r.k 10
def stK (k:Int) (r:RawS):SetS :=
 ⟨k,if k=1∨k=4 then QC r.a else if k=6 then (if pk r.b 2=0 then [] else QC r.a) else if k=7 then endL.getD (1+pk r.a 4).toNat [] else [],
  if k=2∨k=8 then pk r.a 65536 else 0,if k=10 then Vo r.k r.a r.b else []⟩
def stR (r:RawS):SetS:=stK (kdR r) r
theorem Wi (r:RawS):1≤kdR r∧kdR r≤10:=by
 have h1:=Q0 r.k (m:=10) (by decide);have h2:=QW r.k (m:=10) (by decide);unfold kdR;split
 ·split <;> omega
 ·omega
theorem YY (r:RawS):∀ k:Int,1≤k→k≤10→QP (stK k r)=0:=by
 intro k h1 h2;rcases QaM k h1 h2 with rfl | rfl | rfl | rfl | rfl | rfl | rfl | rfl | rfl | rfl
 ·exact (show QP ⟨1,QC r.a,0,[]⟩=WA (QC r.a) from rfl).trans (Wt _)
 ·exact ZZ (.inl rfl) (Q0 _ (by decide)) (by have:=QW r.a (m:=65536) (by decide);omega)
 ·rfl
 ·exact (show QP ⟨4,QC r.a,0,[]⟩=WA (QC r.a) from rfl).trans (Wt _)
 ·rfl
 ·show QP ⟨6,if pk r.b 2=0 then [] else QC r.a,0,[]⟩=0;by_cases h:pk r.b 2=0
  ·rw [if_pos h];rfl
  ·rw [if_neg h];have e:QP ⟨6,QC r.a,0,[]⟩=if QC r.a=[] then 0 else if QC r.a=WT then 3 else WA (QC r.a):=rfl
   rw [e,Wt,if_neg (YX _)];split <;> rfl
 ·have h3:=Q0 r.a (m:=4) (by decide);have h4:=QW r.a (m:=4) (by decide);exact (show QP ⟨7,endL.getD (1+pk r.a 4).toNat [],0,[]⟩=Y3 (endL.getD (1+pk r.a 4).toNat []) from rfl).trans (QbV ⟨(1+pk r.a 4).toNat,by omega⟩ (by show (1+pk r.a 4).toNat≠0;omega))
 ·exact ZZ (.inr rfl) (Q0 _ (by decide)) (by have:=QW r.a (m:=65536) (by decide);omega)
 ·rfl
 ·rfl
theorem Zt (r:RawS):QP (stR r)=0:=YY r _ (Wi r).1 (Wi r).2
theorem Zu (r:RawS):(stR r).p.length≤32:=by
 show (if kdR r=10 then Vo r.k r.a r.b else []).length≤32;split
 ·exact Yh
 ·decide
def WK (l:List RawS) (m:Nat):List SetS:=(List.range (min l.length m)).map fun i=>stR (rA l i)
theorem Q7 (l:List RawS) (m:Nat):(WK l m).length=min l.length m:=by unfold WK;simp
theorem YZ (l:List RawS) (m:Nat):∀ i,i < min l.length m → ∀ j,j < 5→(fun a b=>stc (stR (rA l a)) b) i j=stF (WK l m) i j:=by
 intro i hi j hj;show stc (stR (rA l i)) j=stc ((WK l m).getD i Qm) j;unfold WK;rw [Qy8,List.getElem?_map,List.getElem?_range hi];rfl
theorem Zv (l:List RawS) (m:Nat):∀ x∈WK l m,QP x=0∧x.p.length≤32∧Vg x:=fun x hx=>by
 obtain ⟨i,_,rfl⟩:=List.mem_map.1 hx;exact ⟨Zt _,Zu _,Xz (Zt _) (Zu _)⟩
theorem Vi {r:RawS} (h:pk r.b 2=0):stK 6 r=⟨6,[],0,[]⟩:=by
 show SetS.mk 6 (if pk r.b 2=0 then [] else QC r.a) 0 []=_;rw [if_pos h]
theorem Vj {r:RawS} (h:pk r.b 2=1):stK 6 r=⟨6,QC r.a,0,[]⟩:=by
 show SetS.mk 6 (if pk r.b 2=0 then [] else QC r.a) 0 []=_;rw [if_neg (by omega)]
theorem pk2 (n:Int):pk n 2=0∨pk n 2=1:=by
 have h1:=Q0 n (m:=2) (by decide);have h2:=QW n (m:=2) (by decide);omega
theorem QgK (n:Int):pk n 10=0∨pk n 10=1∨pk n 10=2∨pk n 10=3∨pk n 10=4∨pk n 10=5∨pk n 10=6∨pk n 10=7∨pk n 10=8∨pk n 10=9:=by
 have h1:=Q0 n (m:=10) (by decide);have h2:=QW n (m:=10) (by decide);omega
theorem Qd {n m q:Int} (hn:YA n) (hm:0 < m) (hq:pk n m=q):Cf Tryz.prog 27 [] [.i n,.i m] [] (.i q):=hq ▸ Wh hn.1 hn.2 hm
theorem Vk {r:RawS}:∀ j,j < 5→(stq (stR r) j).pv=(stc (stR r) j).pv:=by
 intro j hj
 match j,hj with
 | 0,_=>rfl
 | 1,_=>rfl
 | 2,_=>rfl
 | 4,_=>rfl
 | 3,_ =>
  show (if (stR r).k=10 then EV.u32 (adr (stR r).p) else .v (.int .u32 0)).pv=(EV.u32 (adr (stR r).p)).pv;by_cases h:(stR r).k=10
  ·rw [if_pos h]
  ·rw [if_neg h]
   have e:(stR r).p=[]:=by
    show (if kdR r=10 then Vo r.k r.a r.b else [])=[];exact if_neg h
   rw [e];rfl
theorem Wu {l:List RawS} {m:Nat} (hl:∀ x∈l,x.inn) (hn:(l.length:Int)≤9223372036854775807) (hm:m≤100):Cf Tryz.prog 25 [] [QR l,.i (m:Int)] [] (.lz (min l.length m) 5 (fun a b=>stq (stR (rA l a)) b)):=by
 refine QV {nl:=[(5,48,5)]} Tryz.func25 Tryz.ntmps25 ?_;refine ⟨Nat,fun i=>⟨[(1,.i (m:Int)),(5,.osl 1005 (min i m)),(9,QR l),(10,.i (l.length:Int)),(11,.i (i:Int))],[(1005,.rz (min i m) 5 (fun a b=>stq (stR (rA l a)) b) 48 0)]⟩,fun i=>i≤l.length∧i≤m,fun i=>l.length - i,0,⟨Qzb _,Qzb _⟩,?_,fun i hx1=>?_⟩
 ·skip
  repeat refine o17 ?_
  trivial
 refine ⟨fun h1=>?_,fun h1=>?_⟩
 ·skip
  have c1:=h1
  (simp only [bsX] at c1)
  have hi:i < l.length:=by omega
  have hI:=Qge hl hi;obtain ⟨q,hq⟩:∃ q:Int,pk (rA l i).k 10=q:=⟨_,rfl⟩;obtain ⟨b2,hb2⟩:∃ q:Int,pk (rA l i).b 2=q:=⟨_,rfl⟩;obtain ⟨a2,ha2⟩:∃ q:Int,pk (rA l i).a 2=q:=⟨_,rfl⟩;have hq10:=QgK (rA l i).k;have hb22:=pk2 (rA l i).b;have ha22:=pk2 (rA l i).a;rw [hq] at hq10;rw [hb2] at hb22;rw [ha2] at ha22
  repeat refine o3 ?_
  refine ⟨fun h2=>?_,fun h2=>?_⟩
  ·skip
   have c2:=h2
   (simp only [bsX] at c2)
   have him:i=m:=by have:=hx1.2;omega
   repeat refine o17 ?_
   trivial
  ·skip
   have c2:=h2
   (simp only [bsX] at c2)
   have him:min i m=i:=by have:=hx1.2;omega
   have him1:min (i+1) m=min i m+1:=by (have:=hx1.2);omega
   refine clX (Qd hI.1 (by decide) hq) ?_
   repeat refine o12 ?_
   refine clX (Qd (q:=pk (rA l i).b 3) hI.2.2.1 (by decide) rfl) ?_
   repeat refine o12 ?_
   refine ⟨fun h3=>?_,fun h3=>?_⟩
   ·skip
    have c3:=h3
    (simp only [bsX] at c3)
    rcases ha22 with rfl | rfl
    ·skip
     refine clX (Qd hI.2.1 (by decide) ha2) ?_
     repeat refine o12 ?_
     have hkd:kdR (rA l i)=4:=by unfold kdR;((rw [if_pos c3,ha2];rfl))
     have hE:stR (rA l (min i m))=stK 4 (rA l i):=by rw [him];unfold stR;rw [hkd]
     refine knF (knT ?_);refine clX (Wg (n:=(rA l i).a) hI.2.1) ?_
     repeat refine o5 ?_
     refine ⟨i+1,(by omega),(by (simp only [SrcE.len,Qy6,Qy3,Qy4,Qy5];omega)),?_⟩
     repeat refine o6 ?_
     trivial
    ·skip
     refine clX (Qd hI.2.1 (by decide) ha2) ?_
     repeat refine o12 ?_
     have hkd:kdR (rA l i)=10:=by unfold kdR;((rw [if_pos c3,ha2];rfl))
     have hE:stR (rA l (min i m))=stK 10 (rA l i):=by rw [him];unfold stR;rw [hkd]
     refine knF (knF (knF (knF (knF (knF (knT ?_))))));refine clX (ZP (s:=(rA l i).s) hI.1 hI.2.1 hI.2.2.1) ?_
     repeat refine o5 ?_
     refine ⟨i+1,(by omega),(by (simp only [SrcE.len,Qy6,Qy3,Qy4,Qy5];omega)),?_⟩
     repeat refine o6 ?_
     trivial
   ·skip
    have c3:=h3
    (simp only [bsX] at c3)
    rcases hq10 with rfl | rfl | rfl | rfl | rfl | rfl | rfl | rfl | rfl | rfl
    ·skip
     have hkd:kdR (rA l i)=1:=by unfold kdR;((rw [if_neg c3,hq];rfl))
     have hE:stR (rA l (min i m))=stK 1 (rA l i):=by rw [him];unfold stR;rw [hkd]
     refine knT (knT ?_);refine clX (Wg (n:=(rA l i).a) hI.2.1) ?_
     repeat refine o5 ?_
     refine ⟨i+1,(by omega),(by (simp only [SrcE.len,Qy6,Qy3,Qy4,Qy5];omega)),?_⟩
     repeat refine o6 ?_
     trivial
    ·skip
     have hkd:kdR (rA l i)=2:=by unfold kdR;((rw [if_neg c3,hq];rfl))
     have hE:stR (rA l (min i m))=stK 2 (rA l i):=by rw [him];unfold stR;rw [hkd]
     refine knF (knF (knF (knF (knT (knT ?_)))));refine clX (Qd (q:=pk (rA l i).a 65536) hI.2.1 (by decide) rfl) ?_
     repeat refine o5 ?_
     refine ⟨i+1,(by omega),(by (simp only [SrcE.len,Qy6,Qy3,Qy4,Qy5];omega)),?_⟩
     repeat refine o6 ?_
     trivial
    ·skip
     have hkd:kdR (rA l i)=3:=by unfold kdR;((rw [if_neg c3,hq];rfl))
     have hE:stR (rA l (min i m))=stK 3 (rA l i):=by rw [him];unfold stR;rw [hkd]
     refine knF (knF (knF (knF (knF (knF (knF ?_))))))
     repeat refine o5 ?_
     refine ⟨i+1,(by omega),(by (simp only [SrcE.len,Qy6,Qy3,Qy4,Qy5];omega)),?_⟩
     repeat refine o6 ?_
     trivial
    ·skip
     have hkd:kdR (rA l i)=4:=by unfold kdR;((rw [if_neg c3,hq];rfl))
     have hE:stR (rA l (min i m))=stK 4 (rA l i):=by rw [him];unfold stR;rw [hkd]
     refine knF (knT ?_);refine clX (Wg (n:=(rA l i).a) hI.2.1) ?_
     repeat refine o5 ?_
     refine ⟨i+1,(by omega),(by (simp only [SrcE.len,Qy6,Qy3,Qy4,Qy5];omega)),?_⟩
     repeat refine o6 ?_
     trivial
    ·skip
     have hkd:kdR (rA l i)=5:=by unfold kdR;((rw [if_neg c3,hq];rfl))
     have hE:stR (rA l (min i m))=stK 5 (rA l i):=by rw [him];unfold stR;rw [hkd]
     refine knF (knF (knF (knF (knF (knF (knF ?_))))))
     repeat refine o5 ?_
     refine ⟨i+1,(by omega),(by (simp only [SrcE.len,Qy6,Qy3,Qy4,Qy5];omega)),?_⟩
     repeat refine o6 ?_
     trivial
    ·skip
     have hkd:kdR (rA l i)=6:=by unfold kdR;((rw [if_neg c3,hq];rfl))
     have hE:stR (rA l (min i m))=stK 6 (rA l i):=by rw [him];unfold stR;rw [hkd]
     refine knF (knF ?_);refine ⟨fun h13=>?_,fun h13=>?_⟩
     ·skip
      have c13:=h13
      (simp only [bsX] at c13)
      rcases (by omega:b2=0∨b2=1) with rfl | rfl
      ·skip
       rw [Vi hb2] at hE;refine ⟨[0,1,3,7,0,16,55,127,255,511,1023],by kernel_rfl,?_⟩;refine clX (Wg (n:=(rA l i).a) hI.2.1) ?_
       repeat refine o0 ?_
       refine clX (Qd (q:=0) hI.2.2.1 (by decide) hb2) ?_
       repeat refine o5 ?_
       refine ⟨i+1,(by omega),(by (simp only [SrcE.len,Qy6,Qy3,Qy4,Qy5];omega)),?_⟩
       repeat refine o6 ?_
       trivial
      ·skip
       rw [Vj hb2] at hE;refine ⟨[0,1,3,7,0,16,55,127,255,511,1023],by kernel_rfl,?_⟩;refine clX (Wg (n:=(rA l i).a) hI.2.1) ?_
       repeat refine o0 ?_
       refine clX (Qd (q:=1) hI.2.2.1 (by decide) hb2) ?_
       repeat refine o5 ?_
       refine ⟨i+1,(by omega),(by (simp only [SrcE.len,Qy6,Qy3,Qy4,Qy5];omega)),?_⟩
       repeat refine o6 ?_
       trivial
     ·skip
      have c13:=h13
      (simp only [bsX] at c13)
      exact absurd (show true=false from h13) (by decide)
    ·skip
     have hkd:kdR (rA l i)=7:=by unfold kdR;((rw [if_neg c3,hq];rfl))
     have hE:stR (rA l (min i m))=stK 7 (rA l i):=by rw [him];unfold stR;rw [hkd]
     refine knF (knF (knF (knT ?_)));have g1:=Q0 (rA l i).a (m:=4) (by decide);have g2:=QW (rA l i).a (m:=4) (by decide);refine ⟨[0,0,2,1,9,25,63,127,255,511,1023,2047],by kernel_rfl,?_⟩;refine clX Zo ?_;refine clX Zo ?_
     repeat refine o3 ?_
     refine clX (Qd (m:=4) (q:=pk (rA l i).a 4) hI.2.1 (by decide) rfl) ?_
     repeat refine o5 ?_
     refine ⟨i+1,(by omega),(by (simp only [SrcE.len,Qy6,Qy3,Qy4,Qy5];omega)),?_⟩
     repeat refine o6 ?_
     trivial
    ·skip
     have hkd:kdR (rA l i)=8:=by unfold kdR;((rw [if_neg c3,hq];rfl))
     have hE:stR (rA l (min i m))=stK 8 (rA l i):=by rw [him];unfold stR;rw [hkd]
     refine knF (knF (knF (knF (knF (knT ?_)))));refine clX (Qd (q:=pk (rA l i).a 65536) hI.2.1 (by decide) rfl) ?_
     repeat refine o5 ?_
     refine ⟨i+1,(by omega),(by (simp only [SrcE.len,Qy6,Qy3,Qy4,Qy5];omega)),?_⟩
     repeat refine o6 ?_
     trivial
    ·skip
     have hkd:kdR (rA l i)=9:=by unfold kdR;((rw [if_neg c3,hq];rfl))
     have hE:stR (rA l (min i m))=stK 9 (rA l i):=by rw [him];unfold stR;rw [hkd]
     refine knF (knF (knF (knF (knF (knF (knF ?_))))))
     repeat refine o5 ?_
     refine ⟨i+1,(by omega),(by (simp only [SrcE.len,Qy6,Qy3,Qy4,Qy5];omega)),?_⟩
     repeat refine o6 ?_
     trivial
    ·skip
     have hkd:kdR (rA l i)=10:=by unfold kdR;((rw [if_neg c3,hq];rfl))
     have hE:stR (rA l (min i m))=stK 10 (rA l i):=by rw [him];unfold stR;rw [hkd]
     refine knF (knF (knF (knF (knF (knF (knT ?_))))));refine clX (ZP (s:=(rA l i).s) hI.1 hI.2.1 hI.2.2.1) ?_
     repeat refine o5 ?_
     refine ⟨i+1,(by omega),(by (simp only [SrcE.len,Qy6,Qy3,Qy4,Qy5];omega)),?_⟩
     repeat refine o6 ?_
     trivial
 ·skip
  have c1:=h1
  (simp only [bsX] at c1)
  have hi:i=l.length:=by have:=hx1.1;omega
  subst hi
  repeat refine o17 ?_
  trivial
theorem WL {l:List RawS} {m:Nat} (hl:∀ x∈l,x.inn) (hn:(l.length:Int)≤9223372036854775807) (hm:m≤100):Cf Tryz.prog 25 [] [QR l,.i (m:Int)] [] (Wz (WK l m)):=by
 refine Cf.resAv ?_ (Wu hl hn hm);rw [← Q7 l m];refine QbH fun i hi j hj=>?_;rw [← YZ l m i (by rw [← Q7 l m];exact hi) j hj];exact Vk j hj
end
section
open Go.Lib
theorem QdT (ns:List (List Bool)) (k:Nat) (n:List Bool):(JS ns k n).Perm (n::ns):=by
 have:=(List.perm_middle (a:=n) (l₁:=ns.take k) (l₂:=ns.drop k));rw [List.take_append_drop] at this;exact this
theorem Qjy {n m:List Bool} {p:PeerS}:m∈(Qc0 n p).ns↔m=n∨m∈p.ns:=by
 show m∈JS (QI p.ns n) (lbN (QI p.ns n) n) n↔_;rw [(QdT _ _ n).mem_iff,Qy9];unfold QI;rw [List.mem_filter];by_cases h:m=n
 ·simp [h]
 ·simp [h]
theorem Qc9:∀ {a b:List (List Bool)},Yi a→Yi b→(∀ n,n∈a↔n∈b)→a=b
 | [],[],_,_,_=>rfl
 | [],q::b,_,_,h=>absurd ((h q).2 (Qy7 ..)) (by simp)
 | p::a,[],_,_,h=>absurd ((h p).1 (Qy7 ..)) (by simp)
 | p::a,q::b,h1,h2,h=>by
  obtain ⟨a1,a2⟩:=Qzd.1 h1;obtain ⟨b1,b2⟩:=Qzd.1 h2
  have no:∀ x y:List Bool,ltB x y=true→ltB y x=true→False:=fun x y u v=>by
   have:=Xd u v;rw [Qjc] at this;cases this
  have e:p=q:=by
   rcases Qy9.1 ((h p).1 (Qy7 ..)) with k | k
   ·exact k
   ·rcases Qy9.1 ((h q).2 (Qy7 ..)) with k2 | k2
    ·exact k2.symm
    ·exact absurd (no q p (b1 p k) (a1 q k2)) id
  subst e;have hnp:∀ l:List (List Bool),(∀ x∈l,ltB p x=true)→p ∉ l:=fun l hl hm=>Qjd (hl p hm) rfl;rw [Qc9 a2 b2 fun n=>?_];have:=h n;rw [Qy9,Qy9] at this;constructor
  ·intro k;rcases this.1 (.inr k) with e | e
   ·subst e;exact absurd k (hnp _ a1)
   ·exact e
  ·intro k;rcases this.2 (.inr k) with e | e
   ·subst e;exact absurd k (hnp _ b1)
   ·exact e
theorem Sem.self {c:ConfS} (h:ConfOk c):Sem c c.k c.port (QM c.ps):=⟨h,rfl,rfl,fun _=>rfl⟩
theorem go_9 {c:ConfS} {k:List UInt8} {port:Int} {G:List UInt8→Option PeerS} {a:List UInt8} {p:PeerS} (h:Sem c k port G) (ha:a≠[]) (hp:G a=some p) :
  ∃ d,Qi c a ⟨9,[],0,[]⟩=(d,a,0)∧Sem d k port (Vh G a ⟨p.k,p.s,p.e,p.a,[]⟩):=by
 obtain ⟨i,hi,e,ek,_,eo⟩:=VW (s:=⟨9,[],0,[]⟩) h ha hp (by decide:(5:Int)≤9);obtain ⟨po,_,_⟩:=QgB h hp;refine ⟨_,eo,?_⟩;have:=Qc1 (q:=⟨p.k,p.s,p.e,p.a,[]⟩) h hi e ⟨po.k,po.s,po.e,po.a,Qzb _,fun n hn=>(by cases hn),List.Pairwise.nil⟩ rfl (List.nil_sublist _);rw [ek] at this;rw [e,ek];exact this
theorem Qw4 {c:ConfS} {k:List UInt8} {port:Int} {G:List UInt8→Option PeerS} {a:List UInt8} {n:List Bool} {p:PeerS} (h:Sem c k port G) (ha:a≠[]) (hp:G a=some p) (hf:(QI p.ns n).length=8):Qi c a ⟨10,[],0,n⟩=noS 7:=by
 obtain ⟨i,hi,e,ek,_,eo⟩:=VW (s:=⟨10,[],0,n⟩) h ha hp (by decide:(5:Int)≤10)
 have hnf:Wn c i n:=by
  unfold Wn;rw [JT,Jt _ hi,e];exact hf
 rw [eo];show (if Wn c i n then noS 7 else (⟨c.k,c.port,Qq c.ps i n⟩,a,0))=_;rw [if_pos hnf]
end
section
open Go.RowKit Go.Lib
def QB (p q:PeerS):Bool:=(((decide (p.k=q.k) && decide (p.s=q.s)) && decide (p.e=q.e)) && decide (p.a=q.a)) && decide (p.ns=q.ns)
theorem QH {p q:PeerS}:QB p q=true↔p=q:=by
 unfold QB;simp only [Qza,decide_eq_true_eq];constructor
 ·rintro ⟨⟨⟨⟨h1,h2⟩,h3⟩,h4⟩,h5⟩;cases p;cases q;simp only at h1 h2 h3 h4 h5;subst h1 h2 h3 h4 h5;rfl
 ·rintro rfl;exact ⟨⟨⟨⟨rfl,rfl⟩,rfl⟩,rfl⟩,rfl⟩
def Qr:List PeerS→List PeerS→Bool
 | [],[]=>true
 | p::ps,q::qs=>QB p q && Qr ps qs
 | _,_=>false
theorem Qj:∀ {ps qs:List PeerS},Qr ps qs=true↔ps=qs
 | [],[]=>⟨fun _=>rfl,fun _=>rfl⟩
 | [],q::qs=>⟨fun h=>(by cases h),fun h=>(by cases h)⟩
 | p::ps,[]=>⟨fun h=>(by cases h),fun h=>(by cases h)⟩
 | p::ps,q::qs=>by
  unfold Qr;rw [Qza,QH,Qj,List.cons.injEq]
def WR (a b:ConfS):Bool:=(decide (a.k=b.k) && decide (a.port=b.port)) && Qr a.ps b.ps
theorem W6 {a b:ConfS}:WR a b=true↔a=b:=by
 unfold WR;rw [Qza,Qza,decide_eq_true_eq,decide_eq_true_eq,Qj];constructor
 ·rintro ⟨⟨h1,h2⟩,h3⟩;cases a;cases b;simp only at h1 h2 h3;subst h1 h2 h3;rfl
 ·rintro rfl;exact ⟨⟨rfl,rfl⟩,rfl⟩
theorem QO {A:Type} {d:A} {l m:List A} (hl:l.length=m.length) (h:∀ i,i < l.length→l.getD i d=m.getD i d):l=m:=by
 refine List.ext_getElem hl fun i h1 h2=>?_;have:=h i h1;rw [Qy8,Qy8,Qzc h1,Qzc h2] at this;exact this
theorem W7 {ps qs:List PeerS} (h:¬ ps.length=qs.length):Qr ps qs=false:=by
 cases e:Qr ps qs with
 | false=>rfl
 | true=>exact absurd (congrArg List.length (Qj.1 e)) h
theorem ZH {ps qs:List PeerS} {i:Nat} (h:QB (ps.getD i Qa) (qs.getD i Qa)=false):Qr ps qs=false:=by
 cases e:Qr ps qs with
 | false=>rfl
 | true =>
  rw [Qj.1 e,QH.2 rfl] at h;cases h
theorem W8 {ps qs:List PeerS} (hl:ps.length=qs.length) (h:∀ j,j < ps.length→QB (ps.getD j Qa) (qs.getD j Qa)=true):Qr ps qs=true :=
 Qj.2 (QO hl fun i hi=>QH.1 (h i hi))
theorem Ya {ns ms:List (List Bool)} (hl:ns.length≤1000) (hn:∀ x∈ns,x.length≤32) (hm:ms.length≤1000):Cf Tryz.prog 68 [] [Qg ns,Qg ms] [] (.b (decide (ns=ms))):=by
 refine QV {} Tryz.func68 Tryz.ntmps68 ?_;refine ⟨fun h1=>?_,fun h1=>?_⟩
 ·skip
  have c1:=h1
  (simp only [bsX] at c1)
  have hR:decide (ns=ms)=false:=decide_eq_false fun e=>by (rw [e] at c1;omega)
  repeat refine o8 ?_
  trivial
 ·skip
  have c1:=h1
  (simp only [bsX] at c1)
  have hle:ns.length=ms.length:=by omega
  refine ⟨Nat,fun i=>⟨[(0,Qg ns),(1,Qg ms),(12,.i (ns.length:Int)),(13,.i (i:Int))],[]⟩,fun i=>i≤ns.length ∧ ∀ j,j < i→ns.getD j []=ms.getD j [],fun i=>ns.length - i,0,⟨Qzb _,fun j hj=>absurd hj (Nat.not_lt_zero _)⟩,?_,fun i hx1=>?_⟩
  ·skip
   repeat refine o7 ?_
   trivial
  refine ⟨fun h2=>?_,fun h2=>?_⟩
  ·skip
   have c2:=h2
   (simp only [bsX] at c2)
   have hi:i < ns.length:=by omega
   refine ⟨[0,0,3,7,0,0,48,112,255],by kernel_rfl,?_⟩
   repeat refine o4 ?_
   refine ⟨fun h3=>?_,fun h3=>?_⟩
   ·skip
    have c3:=h3
    (simp only [bsX] at c3)
    have hR:decide (ns=ms)=false:=decide_eq_false fun e=>by (subst e;simp at h3)
    repeat refine o8 ?_
    trivial
   ·skip
    have c3:=h3
    (simp only [bsX] at c3)
    have hE:ns.getD i []=ms.getD i []:=of_decide_eq_true ((YS (ZQ hn i)).symm.trans (by simpa using h3));have hnx:i+1≤ns.length ∧ ∀ j,j < i+1→ns.getD j []=ms.getD j []:=⟨hi,fun j hj=>(Nat.lt_or_ge j i).elim (hx1.2 j) fun q=>by rw [show j=i from by omega];exact hE⟩
    repeat refine o3 ?_
    refine Ql (i+1) ?_
    repeat refine o7 ?_
    trivial
  ·skip
   have c2:=h2
   (simp only [bsX] at c2)
   have hR:decide (ns=ms)=true:=decide_eq_true (QO hle fun j hj=>hx1.2 j (by omega))
   repeat refine o8 ?_
   trivial
theorem Wc {p q:PeerS} (hp:PeerOk p) (hq:PeerOk q):Cf Tryz.prog 68 [] [Qg p.ns,Qg q.ns] [] (.b (decide (p.ns=q.ns))):=Ya (Qze hp.nl (by decide)) hp.nb (Qze hq.nl (by decide))
theorem Za {p q:PeerS} (hp:PeerOk p) (hq:PeerOk q):Cf Tryz.prog 67 [] [ZS p,ZS q] [] (.b (QB p q)):=by
 refine Qs {} Tryz.func67 Tryz.ntmps67 ?_
 repeat refine o19 ?_
 refine gx (fun hc=>(Wc hp hq)) (fun hk=>⟨hk,?_⟩)
 repeat refine o24 ?_
 trivial
theorem Wj {ps qs:List PeerS} (hl:ps.length≤1000) (hp:∀ p∈ps,PeerOk p) (hq:∀ p∈qs,PeerOk p):Cf Tryz.prog 66 [] [Qo ps,Qo qs,.v (.func (.func 67) #[] #[])] [] (.b (Qr ps qs)):=by
 refine Qs {} Tryz.func66 Tryz.ntmps66 ?_;refine ⟨fun h1=>?_,fun h1=>?_⟩
 ·skip
  have c1:=h1
  (simp only [bsX] at c1)
  have hR:=W7 (ps:=ps) (qs:=qs) (by omega)
  repeat refine o8 ?_
  trivial
 ·skip
  have c1:=h1
  (simp only [bsX] at c1)
  have hle:ps.length=qs.length:=by omega
  refine ⟨Nat,fun i=>⟨[(1,Qo qs),(2,.v (.func (.func 67) #[] #[])),(15,Qo ps),(16,.i (ps.length:Int)),(17,.i (i:Int))],[]⟩,fun i=>i≤ps.length ∧ ∀ j,j < i→QB (ps.getD j Qa) (qs.getD j Qa)=true,fun i=>ps.length - i,0,⟨Qzb _,fun j hj=>absurd hj (Nat.not_lt_zero _)⟩,?_,fun i hx1=>?_⟩
  ·skip
   repeat refine o7 ?_
   trivial
  refine ⟨fun h2=>?_,fun h2=>?_⟩
  ·skip
   have c2:=h2
   (simp only [bsX] at c2)
   have hi:i < ps.length:=by omega
   repeat refine o4 ?_
   refine clX (Za (p:=ps.getD i Qa) (q:=qs.getD i Qa) (hp _ (QY (c:=⟨[],0,ps⟩) hi)) (hq _ (QY (c:=⟨[],0,qs⟩) (show i < qs.length by omega)))) ?_
   repeat refine o7 ?_
   refine ⟨fun h3=>?_,fun h3=>?_⟩
   ·skip
    have c3:=h3
    (simp only [bsX] at c3)
    have hR:=ZH (ps:=ps) (qs:=qs) (i:=i) (by simpa using h3)
    repeat refine o8 ?_
    trivial
   ·skip
    have c3:=h3
    (simp only [bsX] at c3)
    have hE:QB (ps.getD i Qa) (qs.getD i Qa)=true:=by simpa using h3
    have hnx:i+1≤ps.length ∧ ∀ j,j < i+1→QB (ps.getD j Qa) (qs.getD j Qa)=true:=⟨hi,fun j hj=>(Nat.lt_or_ge j i).elim (hx1.2 j) fun q=>by rw [show j=i from by omega];exact hE⟩
    repeat refine o3 ?_
    refine Ql (i+1) ?_
    repeat refine o7 ?_
    trivial
  ·skip
   have c2:=h2
   (simp only [bsX] at c2)
   have hR:=W8 hle fun j hj=>hx1.2 j (by omega)
   repeat refine o8 ?_
   trivial
theorem WM {a b:ConfS} (ha:ConfOk a) (hb:ConfOk b):Cf Tryz.prog 24 [] [Qp a,Qp b] [] (.b (WR a b)):=by
 refine Qs {} Tryz.func24 Tryz.ntmps24 ?_
 repeat refine o19 ?_
 refine gx (fun hc=>(Wj (ps:=a.ps) (qs:=b.ps) (Qze ha.pl (by decide)) (fun p hp=>(ha.ps p hp).1) (fun p hp=>(hb.ps p hp).1))) (fun hk=>⟨hk,?_⟩)
 repeat refine o24 ?_
 trivial
end
section
open Go.Lib
theorem QgF.self (o:Option PeerS):QgF [] o o:=by
 cases o with
 | none=>trivial
 | some p=>exact ⟨rfl,rfl,rfl,rfl,fun _ h=>h,fun _ h _=>h⟩
end
section
open Go.RowKit Go.Lib
theorem Cf.arg2 {P:Program} {f:FuncId} {hin hout:List (Nat×EB)} {r u x y:EV} (h:x.av=y.av) (k:Cf P f hin [u,x] hout r):Cf P f hin [u,y] hout r:=by
 unfold Cf Ct at k ⊢;have e:avL [u,x]=avL [u,y]:=congrArg (fun z=>[u.av,z]) h;rw [← e];exact k
end
section
open Go.Lib
def exF (c:ConfS) (p:List UInt8):Bool:=(QM c.ps p).isSome
def peF (c:ConfS) (p:List UInt8):PeerS:=(QM c.ps p).getD Qa
theorem QgO {c:ConfS} {p:List UInt8} {P:PeerS} (h:QM c.ps p=some P):peF c p=P:=by unfold peF;rw [h];rfl
theorem Quv {c:ConfS} {p:List UInt8} (h:QM c.ps p=none):peF c p=Qa:=by unfold peF;rw [h];rfl
theorem Ql9 {c:ConfS} {p:List UInt8} (h:exF c p=true):∃ P,QM c.ps p=some P:=by
 unfold exF at h
 cases g:QM c.ps p with
 | none=>rw [g] at h;cases h
 | some P=>exact ⟨P,rfl⟩
def Qh2 (k:Int):Prop:=k=2∨k=4∨k=6∨k=7∨k=8∨k=9∨k=10
def atN (a:List UInt8) (s:SetS):List UInt8:=if s.k=4 then s.t else if s.k=2 then [] else a
structure EffT (c d:ConfS) (a:List UInt8) (s:SetS):Prop where
 ok:ConfOk d
 k:d.k=c.k
 port:d.port=if s.k=2 then s.n else c.port
 ex:∀ p,exF d p=if s.k=4∧s.t=p then true else exF c p
 fs:∀ p,(peF d p).s=if s.k=6∧a=p then s.t else (peF c p).s
 fe:∀ p,(peF d p).e=if s.k=7∧a=p then s.t else (peF c p).e
 fa:∀ p,(peF d p).a=if s.k=8∧a=p then s.n else (peF c p).a
 fn:∀ p m,m∈(peF d p).ns↔if s.k=10∧m=s.p then p=a else (m∈(peF c p).ns∧¬ (s.k=9∧p=a))
 at_:6≤s.k→a≠[]∧exF c a=true
 new:s.k=4→s.t≠c.k
theorem EffT.same {c:ConfS} {a:List UInt8} {s:SetS} (h:ConfOk c) (hk:s.k=4) (hx:exF c s.t=true) (hn:s.t≠c.k):EffT c c a s:=by
 refine ⟨h,rfl,by rw [if_neg (by omega)],fun p=>?_,fun p=>by rw [if_neg (by omega)],fun p=>by rw [if_neg (by omega)],fun p=>by rw [if_neg (by omega)],fun p m=>?_,fun q=>by omega,fun _=>hn⟩
 ·by_cases e:s.t=p
  ·rw [if_pos ⟨hk,e⟩,← e];exact hx
  ·rw [if_neg (fun q=>e q.2)]
 ·rw [if_neg (by omega)];exact ⟨fun q=>⟨q,by omega⟩,fun q=>q.1⟩
theorem QeV {c d:ConfS} {a:List UInt8} {s:SetS} {P Q:PeerS} (hc:ConfOk c) (h:Sem d c.k c.port (Vh (QM c.ps) a Q)) (hP:QM c.ps a=some P) (ha:a≠[]) (h6:6≤s.k) (h10:s.k≤9)
  (es:Q.s=if s.k=6 then s.t else P.s) (ee:Q.e=if s.k=7 then s.t else P.e) (ea:Q.a=if s.k=8 then s.n else P.a) (en:Q.ns=if s.k=9 then [] else P.ns):EffT c d a s:=by
 have g:∀ p,peF d p=if p=a then Q else peF c p:=fun p=>by
  unfold peF;rw [h.at_];unfold Vh;by_cases e:p=a
  ·rw [if_pos e,if_pos e];rfl
  ·rw [if_neg e,if_neg e]
 have gP:peF c a=P:=QgO hP;refine ⟨h.ok,h.k,by rw [if_neg (by omega)];exact h.port,fun p=>?_,fun p=>?_,fun p=>?_,fun p=>?_,fun p m=>?_,fun _=>⟨ha,by unfold exF;rw [hP];rfl⟩,fun q=>by omega⟩
 ·rw [if_neg (by omega)];unfold exF;rw [h.at_];unfold Vh;by_cases e:p=a
  ·rw [if_pos e,e,hP];rfl
  ·rw [if_neg e]
 ·rw [g];by_cases e:p=a
  ·rw [if_pos e,es,e,gP];by_cases q:s.k=6
   ·rw [if_pos q,if_pos ⟨q,rfl⟩]
   ·rw [if_neg q,if_neg (fun r=>q r.1)]
  ·rw [if_neg e,if_neg (fun r=>e r.2.symm)]
 ·rw [g];by_cases e:p=a
  ·rw [if_pos e,ee,e,gP];by_cases q:s.k=7
   ·rw [if_pos q,if_pos ⟨q,rfl⟩]
   ·rw [if_neg q,if_neg (fun r=>q r.1)]
  ·rw [if_neg e,if_neg (fun r=>e r.2.symm)]
 ·rw [g];by_cases e:p=a
  ·rw [if_pos e,ea,e,gP];by_cases q:s.k=8
   ·rw [if_pos q,if_pos ⟨q,rfl⟩]
   ·rw [if_neg q,if_neg (fun r=>q r.1)]
  ·rw [if_neg e,if_neg (fun r=>e r.2.symm)]
 ·have hx:¬ (s.k=10∧m=s.p):=fun r=>by omega
  rw [g,if_neg hx];by_cases e:p=a
  ·rw [if_pos e,en,e,gP];by_cases q:s.k=9
   ·rw [if_pos q];exact ⟨fun r=>absurd r (by simp),fun r=>absurd ⟨q,rfl⟩ r.2⟩
   ·rw [if_neg q];exact ⟨fun r=>⟨r,fun z=>q z.1⟩,fun r=>r.1⟩
  ·rw [if_neg e];exact ⟨fun r=>⟨r,fun z=>e z.2⟩,fun r=>r.1⟩
theorem QjC {c:ConfS} {a:List UInt8} {s:SetS} (hc:ConfOk c) (hs:Qx s) (hk:Qh2 s.k) (h:(Qi c a s).2.2=0):EffT c (Qi c a s).1 a s∧(Qi c a s).2.1=atN a s:=by
 obtain ⟨k1,k2,k3,k4,k5,k6,k7,k8,k9⟩:=YI hs.1;have sc:=Sem.self hc;unfold Qh2 at hk;unfold atN;by_cases e2:s.k=2
 ·have e:Qi c a s=(⟨c.k,s.n,c.ps⟩,[],0):=by unfold Qi;rw [if_neg (by omega),if_pos e2]
  rw [e,if_neg (by omega),if_pos e2];refine ⟨⟨⟨hc.k,k9 (YJ.2 (.inl e2)),hc.pl,hc.ps,hc.inc,hc.nd⟩,rfl,by rw [if_pos e2],fun p=>by rw [if_neg (by omega)];rfl,fun p=>by rw [if_neg (by omega)];rfl,fun p=>by rw [if_neg (by omega)];rfl,fun p=>by rw [if_neg (by omega)];rfl,fun p m=>?_,fun q=>by omega,fun q=>by omega⟩,rfl⟩;rw [if_neg (by omega)];exact ⟨fun q=>⟨q,by omega⟩,fun q=>q.1⟩
 by_cases e4:s.k=4
 ·have e:Qi c a s=if s.t=c.k then noS 14 else if ¬ Qv c.ps s.t = -1 then (c,s.t,0) else if c.ps.length=6 then noS 7 else (Qer c s.t,s.t,0):=by
   unfold Qi;rw [if_neg (by omega),if_neg (by omega),if_neg (by omega),if_pos e4]
  rw [e] at h ⊢;by_cases q:s.t=c.k
  ·rw [if_pos q] at h;exact absurd h (by decide)
  rw [if_neg q] at h ⊢;by_cases q2:Qv c.ps s.t = -1
  ·rw [if_neg (not_not_intro q2)] at h ⊢;by_cases q3:c.ps.length=6
   ·rw [if_pos q3] at h;exact absurd h (by decide)
   rw [if_neg q3,if_pos e4];have gn:QM c.ps s.t=none:=Yn.2 q2;have gp:∀ p,QM (Qer c s.t).ps p=if p=s.t then some ⟨s.t,[],[],0,[]⟩ else QM c.ps p:=fun p=>QlU _ (X1 q2) p
   have g:∀ p,p≠s.t→peF (Qer c s.t) p=peF c p:=fun p hp=>by unfold peF;rw [gp,if_neg hp]
   have g1:peF (Qer c s.t) s.t=⟨s.t,[],[],0,[]⟩:=by unfold peF;rw [gp,if_pos rfl];rfl
   have g0:peF c s.t=Qa:=Quv gn;refine ⟨⟨Qjk hc (k6 (.inr e4)) q q2 q3,rfl,by rw [if_neg (by omega)];rfl,fun p=>?_,fun p=>?_,fun p=>?_,fun p=>?_,fun p m=>?_,fun z=>by omega,fun _=>q⟩,rfl⟩
   ·unfold exF;rw [gp];by_cases z:p=s.t
    ·rw [if_pos z,if_pos ⟨e4,z.symm⟩];rfl
    ·rw [if_neg z,if_neg (fun r=>z r.2.symm)]
   ·rw [if_neg (by omega)];by_cases z:p=s.t
    ·rw [z,g1,g0];rfl
    ·rw [g p z]
   ·rw [if_neg (by omega)];by_cases z:p=s.t
    ·rw [z,g1,g0];rfl
    ·rw [g p z]
   ·rw [if_neg (by omega)];by_cases z:p=s.t
    ·rw [z,g1,g0];rfl
    ·rw [g p z]
   ·rw [if_neg (by omega)];by_cases z:p=s.t
    ·rw [z,g1,g0];exact ⟨fun r=>absurd r (by simp),fun r=>absurd r.1 (by simp [Qa])⟩
    ·rw [g p z];exact ⟨fun r=>⟨r,by omega⟩,fun r=>r.1⟩
  ·rw [if_pos q2,if_pos e4];refine ⟨EffT.same hc e4 ?_ q,rfl⟩;unfold exF
   cases g:QM c.ps s.t with
   | none=>exact absurd (Yn.1 g) q2
   | some P=>rfl
 have h6:6≤s.k:=by omega
 have e:Qi c a s=if a=[]∨Qv c.ps a = -1 then noS 13 else Qes c a (Qv c.ps a).toNat s:=by
  unfold Qi;rw [if_neg (by omega),if_neg (by omega),if_neg (by omega),if_neg (by omega)]
 by_cases q:a=[]∨Qv c.ps a = -1
 ·rw [e,if_pos q] at h;exact absurd h (by decide)
 rw [not_or] at q
 obtain ⟨P,hP⟩:∃ P,QM c.ps a=some P:=by
  cases g:QM c.ps a with
  | none=>exact absurd (Yn.1 g) q.2
  | some P=>exact ⟨P,rfl⟩
 rw [if_neg e4,if_neg e2];obtain ⟨sk,st,sn,sp⟩:=s;simp only at k1 k2 k3 k4 k5 k6 k7 k8 k9 hk e2 e4 h6 ⊢;by_cases e6:sk=6
 ·subst e6;have hn:sn=0:=k4 (by decide);have hp:sp=[]:=k5 (by decide);subst hn hp;obtain ⟨d,e1,s1⟩:=go_6 sc q.1 hP (k7 rfl);rw [e1];exact ⟨QeV hc s1 hP q.1 (show (6:Int)≤6 by decide) (show (6:Int)≤9 by decide) rfl rfl rfl rfl,rfl⟩
 by_cases e7:sk=7
 ·subst e7;have hn:sn=0:=k4 (by decide);have hp:sp=[]:=k5 (by decide);subst hn hp;obtain ⟨d,e1,s1⟩:=go_7 sc q.1 hP (.inr (k8 rfl));rw [e1];exact ⟨QeV hc s1 hP q.1 (show (6:Int)≤7 by decide) (show (7:Int)≤9 by decide) rfl rfl rfl rfl,rfl⟩
 by_cases e8:sk=8
 ·subst e8;have ht:st=[]:=k3 (by decide);have hp:sp=[]:=k5 (by decide);subst ht hp;obtain ⟨d,e1,s1⟩:=go_8 sc q.1 hP (k9 (by decide));rw [e1];exact ⟨QeV hc s1 hP q.1 (show (6:Int)≤8 by decide) (show (8:Int)≤9 by decide) rfl rfl rfl rfl,rfl⟩
 by_cases e9:sk=9
 ·subst e9;have ht:st=[]:=k3 (by decide);have hn:sn=0:=k4 (by decide);have hp:sp=[]:=k5 (by decide);subst ht hn hp;obtain ⟨d,e1,s1⟩:=go_9 sc q.1 hP;rw [e1];exact ⟨QeV hc s1 hP q.1 (show (6:Int)≤9 by decide) (show (9:Int)≤9 by decide) rfl rfl rfl rfl,rfl⟩
 obtain rfl:sk=10:=by omega
 have ht:st=[]:=k3 (by decide);have hn:sn=0:=k4 (by decide);subst ht hn;by_cases hf:(QI P.ns sp).length=8
 ·rw [Qw4 sc q.1 hP hf] at h;exact absurd h (by decide)
 obtain ⟨d,e1,s1⟩:=Qxx sc q.1 hP hs.2 hf;rw [e1];have g:∀ p,QM d.ps p=if p=a then some (Qc0 sp P) else (QM c.ps p).map (ZJ sp):=s1.at_
 have gP:peF c a=P:=QgO hP
 have gf:∀ p,p≠a→peF d p=ZJ sp (peF c p)∨(peF d p=Qa∧peF c p=Qa):=fun p hp=>by
  unfold peF;rw [g,if_neg hp]
  cases QM c.ps p with
  | none=>exact .inr ⟨rfl,rfl⟩
  | some R=>exact .inl rfl
 have ga:peF d a=Qc0 sp P:=by unfold peF;rw [g,if_pos rfl];rfl
 have fld:∀ p,(peF d p).s=(peF c p).s∧(peF d p).e=(peF c p).e∧(peF d p).a=(peF c p).a:=fun p=>by
  by_cases z:p=a
  ·rw [z,ga,gP];exact ⟨rfl,rfl,rfl⟩
  ·rcases gf p z with w | ⟨w1,w2⟩
   ·rw [w];exact ⟨rfl,rfl,rfl⟩
   ·rw [w1,w2];exact ⟨rfl,rfl,rfl⟩
 refine ⟨⟨s1.ok,s1.k,s1.port,fun p=>?_,fun p=>(fld p).1,fun p=>(fld p).2.1,fun p=>(fld p).2.2,fun p m=>?_,fun _=>⟨q.1,by unfold exF;rw [hP];rfl⟩,fun z=>absurd z (show ¬ (10:Int)=4 by decide)⟩,rfl⟩
 ·rw [if_neg (fun z=>absurd z.1 (show ¬ (10:Int)=4 by decide))];unfold exF;rw [g];by_cases z:p=a
  ·rw [if_pos z,z,hP];rfl
  ·rw [if_neg z];cases QM c.ps p <;> rfl
 ·by_cases z:p=a
  ·rw [z,ga,gP,Qjy];by_cases w:m=sp
   ·rw [if_pos ⟨rfl,w⟩];exact ⟨fun _=>rfl,fun _=>.inl w⟩
   ·rw [if_neg (fun r=>w r.2)];exact ⟨fun r=>⟨r.resolve_left w,fun r=>absurd r.1 (show ¬ (10:Int)=9 by decide)⟩,fun r=>.inr r.1⟩
  ·rcases gf p z with w | ⟨w1,w2⟩
   ·rw [w,Qjm];by_cases u:m=sp
    ·rw [if_pos ⟨rfl,u⟩];exact ⟨fun r=>absurd u r.2,fun r=>absurd r z⟩
    ·rw [if_neg (fun r=>u r.2)];exact ⟨fun r=>⟨r.1,fun r=>absurd r.1 (show ¬ (10:Int)=9 by decide)⟩,fun r=>⟨r.1,u⟩⟩
   ·rw [w1,w2];by_cases u:m=sp
    ·rw [if_pos ⟨rfl,u⟩];exact ⟨fun r=>absurd r (by simp [Qa]),fun r=>absurd r z⟩
    ·rw [if_neg (fun r=>u r.2)];exact ⟨fun r=>absurd r (by simp [Qa]),fun r=>absurd r.1 (by simp [Qa])⟩
end
end Go.Proofs.YtcebndkiagbddaaGreatDoor
