/- StageEnds: the end of a stage is the result of the whole batch, however many steps were performed before, or its error: the statement holds of the program, for every input. No further condition. -/
import Derived.Lib.BitFns
import Derived.Lib.ItoaNum
import Derived.Lib.Repeat
import Derived.Test.YtcebndkiagbddaaGreatDoorRows
import Derived.WalkKit
import Derived.ProofKit
import Derived.OpenShut
import Derived.ShutString
import Derived.ChangeOld
import Derived.Below
import Derived.Lib.SmallJoins
import Derived.Test.YtcebndkiagbddaaGreatDoorProg
import Derived.Test.YtcebndkiagbddaaGreatDoorTie
import Derived.Test.YtcebndkiagbddaaGreatDoorCards
import Derived.Lay
import Derived.SevenTiedAt
import Derived.MakeChecks
import Derived.Lib.LaidTab
import Derived.Stop.LaidErr
import Derived.Test.YtcebndkiagbddaaGreatDoorK44
set_option linter.unusedVariables false
set_option linter.unusedSimpArgs false
set_option maxRecDepth 100000
set_option maxHeartbeats 4000000
open List renaming length_cons → Qy3, length_append → Qy4, length_nil → Qy5, getD_eq_getElem?_getD → Qy7, mem_cons_self → Qza, getElem?_eq_getElem → Qzb, mem_cons_of_mem → Qzc
open Nat renaming zero_add → Qy6, zero_le → Qy8, le_trans → Qzd
open Bool renaming and_eq_true → Qy9
open Int renaming le_refl → Qze
namespace Go.Proofs.YtcebndkiagbddaaGreatDoor
section
end
section
end
section
theorem Wt (n:Int):WA (QC n)=0:=by obtain ⟨j,h,e,_⟩:=Xb n;rw [e];exact Ys j h
end
section
open Go.RowKit
end
section
open Go.RowKit
theorem YX (n:Int):QC n≠WT:=by obtain ⟨j,h,e,_⟩:=Xb n;rw [e];exact QbW j h
end
section
open Go.RowKit
end
section
open Go.RowKit
end
section
open Go.ChangeShapes Go.WideShapes Go.ChangeAt Go.RowKit
open Go.ChangeMaps (open_string shut_string)
section
variable {w:World} {Pub:Nat→Nat→Prop} {φ:Qt}
theorem Qjx (u:Value):RA w Pub φ (EV.v u).av u:=by unfold EV.av RA RP;rfl
end
end
section
open Go.Lib
instance (c:ConfS) (i:Nat) (n:List Bool):Decidable (Wn c i n):=by unfold Wn;exact inferInstance
theorem Z0:∀ {L:List SetS} {c:ConfS} {a:List UInt8} {i:Nat},ConfOk c→Qb0 a→(∀ s∈L,Qx s)→ConfOk (Yx c a i L).1
 | [],c,a,i,h,_,_=>h
 | s::L,c,a,i,h,ha,hL=>by
  obtain ⟨k1,k2⟩:=Xs h ha (hL s (Qza ..));show ConfOk (if (Qi c a s).2.2=0 then Yx (Qi c a s).1 (Qi c a s).2.1 (i+1) L else (Q4,(i:Int)+1,(Qi c a s).2.2)).1;by_cases q:(Qi c a s).2.2=0
  ·rw [if_pos q];exact Z0 k1 k2 fun x hx=>hL x (Qzc _ hx)
  ·rw [if_neg q];exact ZG
theorem Xu {c:ConfS} {L:List SetS} (h:ConfOk c) (hL:∀ s∈L,Qx s):ConfOk (ZX c L).1:=Z0 h (.inl rfl) hL
end
section
open Go.RowKit Go.Lib
theorem Cf.resAv {P:Program} {f:FuncId} {hin hout:List (Nat×EB)} {ags:List EV} {r r':EV} (h:r.av=r'.av) (k:Cf P f hin ags hout r):Cf P f hin ags hout r':=by
 unfold Cf Ct at k ⊢;rw [← h];exact k
end
section
open Go.RowKit Go.Lib
def QB (p q:PeerS):Bool:=(((decide (p.k=q.k) && decide (p.s=q.s)) && decide (p.e=q.e)) && decide (p.a=q.a)) && decide (p.ns=q.ns)
theorem QH {p q:PeerS}:QB p q=true↔p=q:=by
 unfold QB;simp only [Qy9,decide_eq_true_eq];constructor
 ·rintro ⟨⟨⟨⟨h1,h2⟩,h3⟩,h4⟩,h5⟩;cases p;cases q;simp only at h1 h2 h3 h4 h5;subst h1 h2 h3 h4 h5;rfl
 ·rintro rfl;exact ⟨⟨⟨⟨rfl,rfl⟩,rfl⟩,rfl⟩,rfl⟩
def Qr:List PeerS→List PeerS→Bool
 | [],[]=>true
 | p::ps,q::qs=>QB p q && Qr ps qs
 | _,_=>false
theorem Qj:∀ {ps qs:List PeerS},Qr ps qs=true↔ps=qs
 | [],[]=>⟨fun _=>rfl,fun _=>rfl⟩
 | [],q::qs=>⟨fun h=>(by cases h),fun h=>(by cases h)⟩
 | p::ps,[]=>⟨fun h=>(by cases h),fun h=>(by cases h)⟩
 | p::ps,q::qs=>by
  unfold Qr;rw [Qy9,QH,Qj,List.cons.injEq]
def WR (a b:ConfS):Bool:=(decide (a.k=b.k) && decide (a.port=b.port)) && Qr a.ps b.ps
theorem W6 {a b:ConfS}:WR a b=true↔a=b:=by
 unfold WR;rw [Qy9,Qy9,decide_eq_true_eq,decide_eq_true_eq,Qj];constructor
 ·rintro ⟨⟨h1,h2⟩,h3⟩;cases a;cases b;simp only at h1 h2 h3;subst h1 h2 h3;rfl
 ·rintro rfl;exact ⟨⟨rfl,rfl⟩,rfl⟩
theorem QO {A:Type} {d:A} {l m:List A} (hl:l.length=m.length) (h:∀ i,i < l.length→l.getD i d=m.getD i d):l=m:=by
 refine List.ext_getElem hl fun i h1 h2=>?_;have:=h i h1;rw [Qy7,Qy7,Qzb h1,Qzb h2] at this;exact this
theorem W7 {ps qs:List PeerS} (h:¬ ps.length=qs.length):Qr ps qs=false:=by
 cases e:Qr ps qs with
 | false=>rfl
 | true=>exact absurd (congrArg List.length (Qj.1 e)) h
theorem ZH {ps qs:List PeerS} {i:Nat} (h:QB (ps.getD i Qa) (qs.getD i Qa)=false):Qr ps qs=false:=by
 cases e:Qr ps qs with
 | false=>rfl
 | true =>
  rw [Qj.1 e,QH.2 rfl] at h;cases h
theorem W8 {ps qs:List PeerS} (hl:ps.length=qs.length) (h:∀ j,j < ps.length→QB (ps.getD j Qa) (qs.getD j Qa)=true):Qr ps qs=true :=
 Qj.2 (QO hl fun i hi=>QH.1 (h i hi))
theorem Ya {ns ms:List (List Bool)} (hl:ns.length≤1000) (hn:∀ x∈ns,x.length≤32) (hm:ms.length≤1000):Cf Tryz.prog 68 [] [Qg ns,Qg ms] [] (.b (decide (ns=ms))):=by
 refine QV {} Tryz.func68 Tryz.ntmps68 ?_;refine ⟨fun h1=>?_,fun h1=>?_⟩
 ·skip
  have c1:=h1
  (simp only [bsX] at c1)
  have hR:decide (ns=ms)=false:=decide_eq_false fun e=>by (rw [e] at c1;omega)
  repeat refine o8 ?_
  trivial
 ·skip
  have c1:=h1
  (simp only [bsX] at c1)
  have hle:ns.length=ms.length:=by omega
  refine ⟨Nat,fun i=>⟨[(0,Qg ns),(1,Qg ms),(12,.i (ns.length:Int)),(13,.i (i:Int))],[]⟩,fun i=>i≤ns.length ∧ ∀ j,j < i→ns.getD j []=ms.getD j [],fun i=>ns.length - i,0,⟨Qy8 _,fun j hj=>absurd hj (Nat.not_lt_zero _)⟩,?_,fun i hx1=>?_⟩
  ·skip
   repeat refine o7 ?_
   trivial
  refine ⟨fun h2=>?_,fun h2=>?_⟩
  ·skip
   have c2:=h2
   (simp only [bsX] at c2)
   have hi:i < ns.length:=by omega
   refine ⟨[0,0,3,7,0,0,48,112,255],by kernel_rfl,?_⟩
   repeat refine o4 ?_
   refine ⟨fun h3=>?_,fun h3=>?_⟩
   ·skip
    have c3:=h3
    (simp only [bsX] at c3)
    have hR:decide (ns=ms)=false:=decide_eq_false fun e=>by (subst e;simp at h3)
    repeat refine o8 ?_
    trivial
   ·skip
    have c3:=h3
    (simp only [bsX] at c3)
    have hE:ns.getD i []=ms.getD i []:=of_decide_eq_true ((YS (ZQ hn i)).symm.trans (by simpa using h3));have hnx:i+1≤ns.length ∧ ∀ j,j < i+1→ns.getD j []=ms.getD j []:=⟨hi,fun j hj=>(Nat.lt_or_ge j i).elim (hx1.2 j) fun q=>by rw [show j=i from by omega];exact hE⟩
    repeat refine o3 ?_
    refine Ql (i+1) ?_
    repeat refine o7 ?_
    trivial
  ·skip
   have c2:=h2
   (simp only [bsX] at c2)
   have hR:decide (ns=ms)=true:=decide_eq_true (QO hle fun j hj=>hx1.2 j (by omega))
   repeat refine o8 ?_
   trivial
theorem Wc {p q:PeerS} (hp:PeerOk p) (hq:PeerOk q):Cf Tryz.prog 68 [] [Qg p.ns,Qg q.ns] [] (.b (decide (p.ns=q.ns))):=Ya (Qzd hp.nl (by decide)) hp.nb (Qzd hq.nl (by decide))
theorem Za {p q:PeerS} (hp:PeerOk p) (hq:PeerOk q):Cf Tryz.prog 67 [] [ZS p,ZS q] [] (.b (QB p q)):=by
 refine Qs {} Tryz.func67 Tryz.ntmps67 ?_
 repeat refine o19 ?_
 refine gx (fun hc=>(Wc hp hq)) (fun hk=>⟨hk,?_⟩)
 repeat refine o24 ?_
 trivial
theorem Wj {ps qs:List PeerS} (hl:ps.length≤1000) (hp:∀ p∈ps,PeerOk p) (hq:∀ p∈qs,PeerOk p):Cf Tryz.prog 66 [] [Qo ps,Qo qs,.v (.func (.func 67) #[] #[])] [] (.b (Qr ps qs)):=by
 refine Qs {} Tryz.func66 Tryz.ntmps66 ?_;refine ⟨fun h1=>?_,fun h1=>?_⟩
 ·skip
  have c1:=h1
  (simp only [bsX] at c1)
  have hR:=W7 (ps:=ps) (qs:=qs) (by omega)
  repeat refine o8 ?_
  trivial
 ·skip
  have c1:=h1
  (simp only [bsX] at c1)
  have hle:ps.length=qs.length:=by omega
  refine ⟨Nat,fun i=>⟨[(1,Qo qs),(2,.v (.func (.func 67) #[] #[])),(15,Qo ps),(16,.i (ps.length:Int)),(17,.i (i:Int))],[]⟩,fun i=>i≤ps.length ∧ ∀ j,j < i→QB (ps.getD j Qa) (qs.getD j Qa)=true,fun i=>ps.length - i,0,⟨Qy8 _,fun j hj=>absurd hj (Nat.not_lt_zero _)⟩,?_,fun i hx1=>?_⟩
  ·skip
   repeat refine o7 ?_
   trivial
  refine ⟨fun h2=>?_,fun h2=>?_⟩
  ·skip
   have c2:=h2
   (simp only [bsX] at c2)
   have hi:i < ps.length:=by omega
   repeat refine o4 ?_
   refine clX (Za (p:=ps.getD i Qa) (q:=qs.getD i Qa) (hp _ (QY (c:=⟨[],0,ps⟩) hi)) (hq _ (QY (c:=⟨[],0,qs⟩) (show i < qs.length by omega)))) ?_
   repeat refine o7 ?_
   refine ⟨fun h3=>?_,fun h3=>?_⟩
   ·skip
    have c3:=h3
    (simp only [bsX] at c3)
    have hR:=ZH (ps:=ps) (qs:=qs) (i:=i) (by simpa using h3)
    repeat refine o8 ?_
    trivial
   ·skip
    have c3:=h3
    (simp only [bsX] at c3)
    have hE:QB (ps.getD i Qa) (qs.getD i Qa)=true:=by simpa using h3
    have hnx:i+1≤ps.length ∧ ∀ j,j < i+1→QB (ps.getD j Qa) (qs.getD j Qa)=true:=⟨hi,fun j hj=>(Nat.lt_or_ge j i).elim (hx1.2 j) fun q=>by rw [show j=i from by omega];exact hE⟩
    repeat refine o3 ?_
    refine Ql (i+1) ?_
    repeat refine o7 ?_
    trivial
  ·skip
   have c2:=h2
   (simp only [bsX] at c2)
   have hR:=W8 hle fun j hj=>hx1.2 j (by omega)
   repeat refine o8 ?_
   trivial
theorem WM {a b:ConfS} (ha:ConfOk a) (hb:ConfOk b):Cf Tryz.prog 24 [] [Qp a,Qp b] [] (.b (WR a b)):=by
 refine Qs {} Tryz.func24 Tryz.ntmps24 ?_
 repeat refine o19 ?_
 refine gx (fun hc=>(Wj (ps:=a.ps) (qs:=b.ps) (Qzd ha.pl (by decide)) (fun p hp=>(ha.ps p hp).1) (fun p hp=>(hb.ps p hp).1))) (fun hk=>⟨hk,?_⟩)
 repeat refine o24 ?_
 trivial
end
section
open Go.Lib
structure StgS where
 rest:List SetS
 c:ConfS
 at_:List UInt8
 err:Int
def st1 (s:StgS):StgS:=match s.rest with
 | []=>s
 | x::r=>if s.err=0 then (if (Qi s.c s.at_ x).2.2=0 then ⟨r,(Qi s.c s.at_ x).1,(Qi s.c s.at_ x).2.1,0⟩ else ⟨x::r,s.c,s.at_,(Qi s.c s.at_ x).2.2⟩) else s
def stN:Nat→StgS→StgS
 | 0,s=>s
 | n+1,s=>stN n (st1 s)
theorem Qde:∀ (n k:Nat) (s:StgS),stN (n+k) s=stN k (stN n s)
 | 0,k,s=>by rw [Qy6];rfl
 | n+1,k,s=>by
  rw [show n+1+k=(n+k)+1 from by omega];exact Qde n k (st1 s)
theorem Qbv {s:StgS} (h:s.rest=[]):st1 s=s:=by unfold st1;rw [h]
theorem VM {s:StgS} (h:¬ s.err=0):st1 s=s:=by
 unfold st1
 cases q:s.rest with
 | nil=>rfl
 | cons x r=>simp only [if_neg h]
theorem Y2 {s:StgS} (h:st1 s=s):∀ n,stN n s=s
 | 0=>rfl
 | n+1=>by show stN n (st1 s)=s;rw [h];exact Y2 h n
theorem QdU {s:StgS} {x:SetS} {r:List SetS} (h:s.rest=x::r) (he:s.err=0) (ho:(Qi s.c s.at_ x).2.2=0):st1 s=⟨r,(Qi s.c s.at_ x).1,(Qi s.c s.at_ x).2.1,0⟩:=by
 unfold st1;rw [h];simp only [if_pos he,if_pos ho]
theorem Qbw {s:StgS} {x:SetS} {r:List SetS} (h:s.rest=x::r) (he:s.err=0) (ho:¬ (Qi s.c s.at_ x).2.2=0):st1 s=⟨x::r,s.c,s.at_,(Qi s.c s.at_ x).2.2⟩:=by
 unfold st1;rw [h];simp only [if_pos he,if_neg ho]
structure StgOk (s:StgS):Prop where
 c:ConfOk s.c
 rest:∀ x∈s.rest,Qx x
 len:s.rest.length≤60
 at_:Qb0 s.at_
 err:0≤s.err∧s.err≤14
def QdV (o:QlB):Prop:=0≤o.2.2∧o.2.2≤14
theorem Q2 {p:Prop} [Decidable p] {a b:QlB} (h:QdV a) (k:QdV b):QdV (if p then a else b):=by split <;> assumption
theorem Zb (c:ConfS) (a:List UInt8):QdV (c,a,0):=⟨Qze _,by show (0:Int)≤14;decide⟩
theorem Qb8 {e:Int} (h:0≤e∧e≤14):QdV (noS e):=h
theorem QjJ (c:ConfS) (a:List UInt8) (s:SetS):0≤(Qi c a s).2.2∧(Qi c a s).2.2≤14:=by
 show QdV (Qi c a s);unfold Qi Qes;have n14:=Qb8 (e:=14) (by decide);have n7:=Qb8 (e:=7) (by decide);have n13:=Qb8 (e:=13) (by decide)
 exact Q2 (Q2 (Zb _ _) n14) (Q2 (Zb _ _) (Q2 (Zb _ _) (Q2 (Q2 n14 (Q2 (Zb _ _) (Q2 n7 (Zb _ _)))) (Q2 n13
  (Q2 (Zb _ _) (Q2 (Zb _ _) (Q2 (Zb _ _) (Q2 (Zb _ _) (Q2 (Zb _ _) (Q2 n7 (Zb _ _)))))))))))
theorem StgOk.step {s:StgS} (h:StgOk s):StgOk (st1 s):=by
 cases q:s.rest with
 | nil=>rw [Qbv q];exact h
 | cons x r =>
  have hx:Qx x:=h.rest x (by rw [q];exact Qza ..);have hl:=h.len;rw [q,Qy3] at hl;by_cases he:s.err=0
  ·obtain ⟨a,b⟩:=Xs h.c h.at_ hx;by_cases ho:(Qi s.c s.at_ x).2.2=0
   ·rw [QdU q he ho];exact ⟨a,fun y hy=>h.rest y (by rw [q];exact Qzc _ hy),by show r.length≤60;omega,b,⟨Qze _,by show (0:Int)≤14;decide⟩⟩
   ·rw [Qbw q he ho];exact ⟨h.c,fun y hy=>h.rest y (by rw [q];exact hy),by show (x::r).length≤60;rw [Qy3];omega,h.at_,QjJ _ _ _⟩
  ·rw [VM he];exact h
theorem StgOk.stN {s:StgS} (h:StgOk s):∀ n,StgOk (stN n s)
 | 0=>h
 | n+1=>h.step.stN n
theorem Qpy:∀ {L:List SetS} {c:ConfS} {a:List UInt8} (n i:Nat),L.length≤n→((stN n ⟨L,c,a,0⟩).err=(Yx c a i L).2.2)∧((stN n ⟨L,c,a,0⟩).err=0→(stN n ⟨L,c,a,0⟩).c=(Yx c a i L).1)∧(¬ (Yx c a i L).2.2=0→(Yx c a i L).1=Q4)
 | [],c,a,n,i,_=>by
  have:stN n ⟨[],c,a,0⟩=⟨[],c,a,0⟩:=Y2 (Qbv rfl) n;rw [this];exact ⟨rfl,fun _=>rfl,fun h=>absurd rfl h⟩
 | x::L,c,a,0,i,h=>by rw [Qy3] at h;omega
 | x::L,c,a,n+1,i,h=>by
  rw [Qy3] at h;have hS:stN (n+1) ⟨x::L,c,a,0⟩=stN n (st1 ⟨x::L,c,a,0⟩):=rfl;rw [hS];have e:Yx c a i (x::L)=if (Qi c a x).2.2=0 then Yx (Qi c a x).1 (Qi c a x).2.1 (i+1) L else (Q4,(i:Int)+1,(Qi c a x).2.2):=rfl
  rw [e];by_cases ho:(Qi c a x).2.2=0
  ·rw [QdU (s:=⟨x::L,c,a,0⟩) rfl rfl ho,if_pos ho];exact Qpy n (i+1) (by omega)
  ·rw [Qbw (s:=⟨x::L,c,a,0⟩) rfl rfl ho,if_neg ho,Y2 (VM ho) n];exact ⟨rfl,fun q=>absurd q ho,fun _=>rfl⟩
end
section
open Go.RowKit Go.Lib
def kdR (r:RawS):Int:=if pk r.b 3=0 then (if pk r.a 2=0 then 4 else 10) else 1+pk r.k 10
def stK (k:Int) (r:RawS):SetS :=
 ⟨k,if k=1∨k=4 then QC r.a else if k=6 then (if pk r.b 2=0 then [] else QC r.a) else if k=7 then endL.getD (1+pk r.a 4).toNat [] else [],
  if k=2∨k=8 then pk r.a 65536 else 0,if k=10 then Vo r.k r.a r.b else []⟩
def stR (r:RawS):SetS:=stK (kdR r) r
theorem Wi (r:RawS):1≤kdR r∧kdR r≤10:=by
 have h1:=Q0 r.k (m:=10) (by decide);have h2:=QW r.k (m:=10) (by decide);unfold kdR;split
 ·split <;> omega
 ·omega
theorem YY (r:RawS):∀ k:Int,1≤k→k≤10→QP (stK k r)=0:=by
 intro k h1 h2;rcases QaM k h1 h2 with rfl | rfl | rfl | rfl | rfl | rfl | rfl | rfl | rfl | rfl
 ·exact (show QP ⟨1,QC r.a,0,[]⟩=WA (QC r.a) from rfl).trans (Wt _)
 ·exact ZZ (.inl rfl) (Q0 _ (by decide)) (by have:=QW r.a (m:=65536) (by decide);omega)
 ·rfl
 ·exact (show QP ⟨4,QC r.a,0,[]⟩=WA (QC r.a) from rfl).trans (Wt _)
 ·rfl
 ·show QP ⟨6,if pk r.b 2=0 then [] else QC r.a,0,[]⟩=0;by_cases h:pk r.b 2=0
  ·rw [if_pos h];rfl
  ·rw [if_neg h];have e:QP ⟨6,QC r.a,0,[]⟩=if QC r.a=[] then 0 else if QC r.a=WT then 3 else WA (QC r.a):=rfl
   rw [e,Wt,if_neg (YX _)];split <;> rfl
 ·have h3:=Q0 r.a (m:=4) (by decide);have h4:=QW r.a (m:=4) (by decide);exact (show QP ⟨7,endL.getD (1+pk r.a 4).toNat [],0,[]⟩=Y3 (endL.getD (1+pk r.a 4).toNat []) from rfl).trans (QbV ⟨(1+pk r.a 4).toNat,by omega⟩ (by show (1+pk r.a 4).toNat≠0;omega))
 ·exact ZZ (.inr rfl) (Q0 _ (by decide)) (by have:=QW r.a (m:=65536) (by decide);omega)
 ·rfl
 ·rfl
theorem Zt (r:RawS):QP (stR r)=0:=YY r _ (Wi r).1 (Wi r).2
theorem Zu (r:RawS):(stR r).p.length≤32:=by
 show (if kdR r=10 then Vo r.k r.a r.b else []).length≤32;split
 ·exact Yh
 ·decide
def WK (l:List RawS) (m:Nat):List SetS:=(List.range (min l.length m)).map fun i=>stR (rA l i)
theorem Q7 (l:List RawS) (m:Nat):(WK l m).length=min l.length m:=by unfold WK;simp
theorem YZ (l:List RawS) (m:Nat):∀ i,i < min l.length m → ∀ j,j < 5→(fun a b=>stc (stR (rA l a)) b) i j=stF (WK l m) i j:=by
 intro i hi j hj;show stc (stR (rA l i)) j=stc ((WK l m).getD i Qm) j;unfold WK;rw [Qy7,List.getElem?_map,List.getElem?_range hi];rfl
theorem Zv (l:List RawS) (m:Nat):∀ x∈WK l m,QP x=0∧x.p.length≤32∧Vg x:=fun x hx=>by
 obtain ⟨i,_,rfl⟩:=List.mem_map.1 hx;exact ⟨Zt _,Zu _,Xz (Zt _) (Zu _)⟩
theorem Vi {r:RawS} (h:pk r.b 2=0):stK 6 r=⟨6,[],0,[]⟩:=by
 show SetS.mk 6 (if pk r.b 2=0 then [] else QC r.a) 0 []=_;rw [if_pos h]
theorem Vj {r:RawS} (h:pk r.b 2=1):stK 6 r=⟨6,QC r.a,0,[]⟩:=by
 show SetS.mk 6 (if pk r.b 2=0 then [] else QC r.a) 0 []=_;rw [if_neg (by omega)]
theorem pk2 (n:Int):pk n 2=0∨pk n 2=1:=by
 have h1:=Q0 n (m:=2) (by decide);have h2:=QW n (m:=2) (by decide);omega
theorem QgK (n:Int):pk n 10=0∨pk n 10=1∨pk n 10=2∨pk n 10=3∨pk n 10=4∨pk n 10=5∨pk n 10=6∨pk n 10=7∨pk n 10=8∨pk n 10=9:=by
 have h1:=Q0 n (m:=10) (by decide);have h2:=QW n (m:=10) (by decide);omega
theorem Qd {n m q:Int} (hn:YA n) (hm:0 < m) (hq:pk n m=q):Cf Tryz.prog 27 [] [.i n,.i m] [] (.i q):=hq ▸ Wh hn.1 hn.2 hm
theorem Vk {r:RawS}:∀ j,j < 5→(stq (stR r) j).pv=(stc (stR r) j).pv:=by
 intro j hj
 match j,hj with
 | 0,_=>rfl
 | 1,_=>rfl
 | 2,_=>rfl
 | 4,_=>rfl
 | 3,_ =>
  show (if (stR r).k=10 then EV.u32 (adr (stR r).p) else .v (.int .u32 0)).pv=(EV.u32 (adr (stR r).p)).pv;by_cases h:(stR r).k=10
  ·rw [if_pos h]
  ·rw [if_neg h]
   have e:(stR r).p=[]:=by
    show (if kdR r=10 then Vo r.k r.a r.b else [])=[];exact if_neg h
   rw [e];rfl
theorem Wu {l:List RawS} {m:Nat} (hl:∀ x∈l,x.inn) (hn:(l.length:Int)≤9223372036854775807) (hm:m≤100):Cf Tryz.prog 25 [] [QR l,.i (m:Int)] [] (.lz (min l.length m) 5 (fun a b=>stq (stR (rA l a)) b)):=by
 refine QV {nl:=[(5,48,5)]} Tryz.func25 Tryz.ntmps25 ?_;refine ⟨Nat,fun i=>⟨[(1,.i (m:Int)),(5,.osl 1005 (min i m)),(9,QR l),(10,.i (l.length:Int)),(11,.i (i:Int))],[(1005,.rz (min i m) 5 (fun a b=>stq (stR (rA l a)) b) 48 0)]⟩,fun i=>i≤l.length∧i≤m,fun i=>l.length - i,0,⟨Qy8 _,Qy8 _⟩,?_,fun i hx1=>?_⟩
 ·skip
  repeat refine o17 ?_
  trivial
 refine ⟨fun h1=>?_,fun h1=>?_⟩
 ·skip
  have c1:=h1
  (simp only [bsX] at c1)
  have hi:i < l.length:=by omega
  have hI:=Qge hl hi;obtain ⟨q,hq⟩:∃ q:Int,pk (rA l i).k 10=q:=⟨_,rfl⟩;obtain ⟨b2,hb2⟩:∃ q:Int,pk (rA l i).b 2=q:=⟨_,rfl⟩;obtain ⟨a2,ha2⟩:∃ q:Int,pk (rA l i).a 2=q:=⟨_,rfl⟩;have hq10:=QgK (rA l i).k;have hb22:=pk2 (rA l i).b;have ha22:=pk2 (rA l i).a;rw [hq] at hq10;rw [hb2] at hb22;rw [ha2] at ha22
  repeat refine o3 ?_
  refine ⟨fun h2=>?_,fun h2=>?_⟩
  ·skip
   have c2:=h2
   (simp only [bsX] at c2)
   have him:i=m:=by have:=hx1.2;omega
   repeat refine o17 ?_
   trivial
  ·skip
   have c2:=h2
   (simp only [bsX] at c2)
   have him:min i m=i:=by have:=hx1.2;omega
   have him1:min (i+1) m=min i m+1:=by (have:=hx1.2);omega
   refine clX (Qd hI.1 (by decide) hq) ?_
   repeat refine o12 ?_
   refine clX (Qd (q:=pk (rA l i).b 3) hI.2.2.1 (by decide) rfl) ?_
   repeat refine o12 ?_
   refine ⟨fun h3=>?_,fun h3=>?_⟩
   ·skip
    have c3:=h3
    (simp only [bsX] at c3)
    rcases ha22 with rfl | rfl
    ·skip
     refine clX (Qd hI.2.1 (by decide) ha2) ?_
     repeat refine o12 ?_
     have hkd:kdR (rA l i)=4:=by unfold kdR;((rw [if_pos c3,ha2];rfl))
     have hE:stR (rA l (min i m))=stK 4 (rA l i):=by rw [him];unfold stR;rw [hkd]
     refine knF (knT ?_);refine clX (Wg (n:=(rA l i).a) hI.2.1) ?_
     repeat refine o5 ?_
     refine ⟨i+1,(by omega),(by (simp only [SrcE.len,Qy6,Qy4,Qy3,Qy5];omega)),?_⟩
     repeat refine o6 ?_
     trivial
    ·skip
     refine clX (Qd hI.2.1 (by decide) ha2) ?_
     repeat refine o12 ?_
     have hkd:kdR (rA l i)=10:=by unfold kdR;((rw [if_pos c3,ha2];rfl))
     have hE:stR (rA l (min i m))=stK 10 (rA l i):=by rw [him];unfold stR;rw [hkd]
     refine knF (knF (knF (knF (knF (knF (knT ?_))))));refine clX (ZP (s:=(rA l i).s) hI.1 hI.2.1 hI.2.2.1) ?_
     repeat refine o5 ?_
     refine ⟨i+1,(by omega),(by (simp only [SrcE.len,Qy6,Qy4,Qy3,Qy5];omega)),?_⟩
     repeat refine o6 ?_
     trivial
   ·skip
    have c3:=h3
    (simp only [bsX] at c3)
    rcases hq10 with rfl | rfl | rfl | rfl | rfl | rfl | rfl | rfl | rfl | rfl
    ·skip
     have hkd:kdR (rA l i)=1:=by unfold kdR;((rw [if_neg c3,hq];rfl))
     have hE:stR (rA l (min i m))=stK 1 (rA l i):=by rw [him];unfold stR;rw [hkd]
     refine knT (knT ?_);refine clX (Wg (n:=(rA l i).a) hI.2.1) ?_
     repeat refine o5 ?_
     refine ⟨i+1,(by omega),(by (simp only [SrcE.len,Qy6,Qy4,Qy3,Qy5];omega)),?_⟩
     repeat refine o6 ?_
     trivial
    ·skip
     have hkd:kdR (rA l i)=2:=by unfold kdR;((rw [if_neg c3,hq];rfl))
     have hE:stR (rA l (min i m))=stK 2 (rA l i):=by rw [him];unfold stR;rw [hkd]
     refine knF (knF (knF (knF (knT (knT ?_)))));refine clX (Qd (q:=pk (rA l i).a 65536) hI.2.1 (by decide) rfl) ?_
     repeat refine o5 ?_
     refine ⟨i+1,(by omega),(by (simp only [SrcE.len,Qy6,Qy4,Qy3,Qy5];omega)),?_⟩
     repeat refine o6 ?_
     trivial
    ·skip
     have hkd:kdR (rA l i)=3:=by unfold kdR;((rw [if_neg c3,hq];rfl))
     have hE:stR (rA l (min i m))=stK 3 (rA l i):=by rw [him];unfold stR;rw [hkd]
     refine knF (knF (knF (knF (knF (knF (knF ?_))))))
     repeat refine o5 ?_
     refine ⟨i+1,(by omega),(by (simp only [SrcE.len,Qy6,Qy4,Qy3,Qy5];omega)),?_⟩
     repeat refine o6 ?_
     trivial
    ·skip
     have hkd:kdR (rA l i)=4:=by unfold kdR;((rw [if_neg c3,hq];rfl))
     have hE:stR (rA l (min i m))=stK 4 (rA l i):=by rw [him];unfold stR;rw [hkd]
     refine knF (knT ?_);refine clX (Wg (n:=(rA l i).a) hI.2.1) ?_
     repeat refine o5 ?_
     refine ⟨i+1,(by omega),(by (simp only [SrcE.len,Qy6,Qy4,Qy3,Qy5];omega)),?_⟩
     repeat refine o6 ?_
     trivial
    ·skip
     have hkd:kdR (rA l i)=5:=by unfold kdR;((rw [if_neg c3,hq];rfl))
     have hE:stR (rA l (min i m))=stK 5 (rA l i):=by rw [him];unfold stR;rw [hkd]
     refine knF (knF (knF (knF (knF (knF (knF ?_))))))
     repeat refine o5 ?_
     refine ⟨i+1,(by omega),(by (simp only [SrcE.len,Qy6,Qy4,Qy3,Qy5];omega)),?_⟩
     repeat refine o6 ?_
     trivial
    ·skip
     have hkd:kdR (rA l i)=6:=by unfold kdR;((rw [if_neg c3,hq];rfl))
     have hE:stR (rA l (min i m))=stK 6 (rA l i):=by rw [him];unfold stR;rw [hkd]
     refine knF (knF ?_);refine ⟨fun h13=>?_,fun h13=>?_⟩
     ·skip
      have c13:=h13
      (simp only [bsX] at c13)
      rcases (by omega:b2=0∨b2=1) with rfl | rfl
      ·skip
       rw [Vi hb2] at hE;refine ⟨[0,1,3,7,0,16,55,127,255,511,1023],by kernel_rfl,?_⟩;refine clX (Wg (n:=(rA l i).a) hI.2.1) ?_
       repeat refine o0 ?_
       refine clX (Qd (q:=0) hI.2.2.1 (by decide) hb2) ?_
       repeat refine o5 ?_
       refine ⟨i+1,(by omega),(by (simp only [SrcE.len,Qy6,Qy4,Qy3,Qy5];omega)),?_⟩
       repeat refine o6 ?_
       trivial
      ·skip
       rw [Vj hb2] at hE;refine ⟨[0,1,3,7,0,16,55,127,255,511,1023],by kernel_rfl,?_⟩;refine clX (Wg (n:=(rA l i).a) hI.2.1) ?_
       repeat refine o0 ?_
       refine clX (Qd (q:=1) hI.2.2.1 (by decide) hb2) ?_
       repeat refine o5 ?_
       refine ⟨i+1,(by omega),(by (simp only [SrcE.len,Qy6,Qy4,Qy3,Qy5];omega)),?_⟩
       repeat refine o6 ?_
       trivial
     ·skip
      have c13:=h13
      (simp only [bsX] at c13)
      exact absurd (show true=false from h13) (by decide)
    ·skip
     have hkd:kdR (rA l i)=7:=by unfold kdR;((rw [if_neg c3,hq];rfl))
     have hE:stR (rA l (min i m))=stK 7 (rA l i):=by rw [him];unfold stR;rw [hkd]
     refine knF (knF (knF (knT ?_)));have g1:=Q0 (rA l i).a (m:=4) (by decide);have g2:=QW (rA l i).a (m:=4) (by decide);refine ⟨[0,0,2,1,9,25,63,127,255,511,1023,2047],by kernel_rfl,?_⟩;refine clX Zo ?_;refine clX Zo ?_
     repeat refine o3 ?_
     refine clX (Qd (m:=4) (q:=pk (rA l i).a 4) hI.2.1 (by decide) rfl) ?_
     repeat refine o5 ?_
     refine ⟨i+1,(by omega),(by (simp only [SrcE.len,Qy6,Qy4,Qy3,Qy5];omega)),?_⟩
     repeat refine o6 ?_
     trivial
    ·skip
     have hkd:kdR (rA l i)=8:=by unfold kdR;((rw [if_neg c3,hq];rfl))
     have hE:stR (rA l (min i m))=stK 8 (rA l i):=by rw [him];unfold stR;rw [hkd]
     refine knF (knF (knF (knF (knF (knT ?_)))));refine clX (Qd (q:=pk (rA l i).a 65536) hI.2.1 (by decide) rfl) ?_
     repeat refine o5 ?_
     refine ⟨i+1,(by omega),(by (simp only [SrcE.len,Qy6,Qy4,Qy3,Qy5];omega)),?_⟩
     repeat refine o6 ?_
     trivial
    ·skip
     have hkd:kdR (rA l i)=9:=by unfold kdR;((rw [if_neg c3,hq];rfl))
     have hE:stR (rA l (min i m))=stK 9 (rA l i):=by rw [him];unfold stR;rw [hkd]
     refine knF (knF (knF (knF (knF (knF (knF ?_))))))
     repeat refine o5 ?_
     refine ⟨i+1,(by omega),(by (simp only [SrcE.len,Qy6,Qy4,Qy3,Qy5];omega)),?_⟩
     repeat refine o6 ?_
     trivial
    ·skip
     have hkd:kdR (rA l i)=10:=by unfold kdR;((rw [if_neg c3,hq];rfl))
     have hE:stR (rA l (min i m))=stK 10 (rA l i):=by rw [him];unfold stR;rw [hkd]
     refine knF (knF (knF (knF (knF (knF (knT ?_))))));refine clX (ZP (s:=(rA l i).s) hI.1 hI.2.1 hI.2.2.1) ?_
     repeat refine o5 ?_
     refine ⟨i+1,(by omega),(by (simp only [SrcE.len,Qy6,Qy4,Qy3,Qy5];omega)),?_⟩
     repeat refine o6 ?_
     trivial
 ·skip
  have c1:=h1
  (simp only [bsX] at c1)
  have hi:i=l.length:=by have:=hx1.1;omega
  subst hi
  repeat refine o17 ?_
  trivial
theorem WL {l:List RawS} {m:Nat} (hl:∀ x∈l,x.inn) (hn:(l.length:Int)≤9223372036854775807) (hm:m≤100):Cf Tryz.prog 25 [] [QR l,.i (m:Int)] [] (Wz (WK l m)):=by
 refine Cf.resAv ?_ (Wu hl hn hm);rw [← Q7 l m];refine QbH fun i hi j hj=>?_;rw [← YZ l m i (by rw [← Q7 l m];exact hi) j hj];exact Vk j hj
end
section
open Go.RowKit Go.Lib
abbrev QnU (s:StgS):List EV:=[.b true,Wz s.rest,.s s.c.k,.i s.c.port,Qo s.c.ps,.s s.at_,.i s.err]
abbrev Qb9 (s:StgS):EV:=.agg (QnU s)
abbrev QuM:List EV:=[.b false,.nil,.s [],.i 0,.nil,.s [],.i 0]
theorem XD {L:List SetS} (hl:L.length≤1000000):Cf Tryz.prog 79 [] [Wz L] [] (Wz L):=by
 refine Qs {} Tryz.func79 Tryz.ntmps79 ?_;refine fun g1 hg1=>?_;refine ⟨fun h2=>?_,fun h2=>?_⟩
 ·skip
  have c2:=h2
  repeat refine o72 ?_
  trivial
 ·skip
  have c2:=h2
  repeat refine o23 ?_
  trivial
theorem QnV {a:List UInt8} {e:Int} (h:Qb0 a) (he:0≤e∧e≤14):¬ (((¬ a=[]∧¬ True)∨e < 0)∨14 < e):=by
 rintro ((⟨_,q⟩ | q) | q)
 ·exact q trivial
 ·omega
 ·omega
theorem VN {s:StgS} (h:StgOk s):Cf Tryz.prog 36 [] [Qb9 s] [] (.i 0):=by
 have hl:=h.len;have he:=h.err;refine Qs {} Tryz.func36 Tryz.ntmps36 ?_;refine knF ?_;refine clX (Qh h.c) ?_
 repeat refine o1 ?_
 refine knF ?_;refine ⟨fun h3=>?_,fun h3=>?_⟩
 ·skip
  have c3:=h3
  (simp only [bsX] at c3)
  exact absurd c3 (by omega)
 ·skip
  have c3:=h3
  (simp only [bsX] at c3)
  refine ⟨Nat,fun i=>⟨[(1,.own 1001 0),(54,Wz s.rest),(55,.i (s.rest.length:Int)),(56,.i (i:Int))],[(1001,.box (QnU s) 66)]⟩,fun i=>i≤s.rest.length,fun i=>s.rest.length - i,0,Qy8 _,?_,fun i hx1=>?_⟩
  ·skip
   repeat refine o1 ?_
   trivial
  refine ⟨fun h4=>?_,fun h4=>?_⟩
  ·skip
   have c4:=h4
   (simp only [bsX] at c4)
   have hi:i < s.rest.length:=by omega
   repeat refine o4 ?_
   refine clX (QS (h.rest _ (VI (d:=Qm) hi))) ?_
   repeat refine o0 ?_
   refine knF ?_
   repeat refine o3 ?_
   refine Ql (i+1) ?_
   repeat refine o1 ?_
   trivial
  ·skip
   have c4:=h4
   (simp only [bsX] at c4)
   repeat refine o118 ?_
   refine gx (fun hc=>(QaJ (h.at_.resolve_left (by simpa using hc)))) (fun hk=>⟨hk,?_⟩)
   repeat refine o119 ?_
   refine ⟨fun h6=>?_,fun h6=>?_⟩
   ·skip
    (simp only [Int.reduceToNat,UInt8.reduceOfNat] at h6)
    have c6:=h6
    (simp only [bsX] at c6)
    exact absurd c6 (QnV h.at_ he)
   ·skip
    (simp only [Int.reduceToNat,UInt8.reduceOfNat] at h6)
    have c6:=h6
    (simp only [bsX] at c6)
    repeat refine o0 ?_
    trivial
theorem Qca {s:StgS} (h:StgOk s):Cf Tryz.prog 78 [] [Qb9 s] [] (Qb9 s):=by
 have hl:=h.len;refine QV {} Tryz.func78 Tryz.ntmps78 ?_;refine ⟨[0,1,3,0,8,31,31,127,255,511],by kernel_rfl,?_⟩;refine clX (XD (L:=s.rest) (by omega)) ?_
 repeat refine o1 ?_
 refine clX (Xl h.c) ?_
 repeat refine o1 ?_
 trivial
theorem QdW {c:ConfS} {s:List UInt8} {L:List SetS} (h:ConfOk c) (hp:Wm s=(L,0,0)):Cf Tryz.prog 34 [] [Qp c,.s s] [] (.tup [Qb9 ⟨L,c,[],0⟩,.i 0,.i 0]):=by
 have hb:=QdP (s:=s);rw [hp] at hb;refine Qs {} Tryz.func34 Tryz.ntmps34 ?_;refine clX (Qh h) ?_
 repeat refine o1 ?_
 refine knF ?_;refine clX hb ?_
 repeat refine o0 ?_
 refine knF ?_;refine clX (Xl h) ?_
 repeat refine o1 ?_
 trivial
theorem QjK {A:Type}:∀ {L:List A},0 < L.length→∃ x r,L=x::r
 | [],h=>absurd h (Nat.lt_irrefl _)
 | x::r,_=>⟨x,r,rfl⟩
theorem Qmi {x:SetS} {r:List SetS} {n:Nat}:∀ i,i < n → ∀ j,j < 5→stF (x::r) (1+i) j=stF r i j:=fun i _ j _=>by
 rw [Nat.add_comm 1 i];rfl
theorem Vm {s:StgS} {n:Nat} (h:StgOk s) (hn:n≤100000):Cf Tryz.prog 35 [] [Qb9 s,.i (n:Int)] [] (.tup [Qb9 (stN n s),.i 0]):=by
 refine QV {} Tryz.func35 Tryz.ntmps35 ?_;refine clX (VN h) ?_
 repeat refine o1 ?_
 refine knF (knF ?_);refine ⟨fun h3=>?_,fun h3=>?_⟩
 ·skip
  have c3:=h3
  (simp only [bsX] at c3)
  exact absurd c3 (by omega)
 ·skip
  have c3:=h3
  (simp only [bsX] at c3)
  refine clX (Qca h) ?_
  repeat refine o1 ?_
  refine ⟨Nat×StgS,fun p=>⟨[(1,.i ((n:Int) - (p.1:Int))),(4,.own 1004 0),(7,.own 1007 0)],[(1004,.box QuM 66),(1007,.box (QnU p.2) 66)]⟩,fun p=>p.1≤n∧stN (n - p.1) p.2=stN n s∧StgOk p.2,fun p=>n - p.1,(0,s),⟨Qy8 _,rfl,h⟩,?_,fun p hx1=>?_⟩
  ·skip
   repeat refine o1 ?_
   trivial
  repeat refine o19 ?_
  refine ⟨fun h4=>?_,fun h4=>?_⟩
  ·skip
   have c4:=h4
   (simp only [bsX] at c4)
   have hlt:p.1 < n:=by omega
   have hsl:=hx1.2.2.len;have he0:p.2.err=0:=by omega
   obtain ⟨x,r,hr⟩:=QjK (show 0 < p.2.rest.length by omega);obtain ⟨i,rest,cf,af,ef⟩:=p;obtain rfl:rest=x::r:=hr;obtain rfl:ef=0:=he0;have hxs:Qx x:=hx1.2.2.rest x (Qza ..);refine ⟨[0,1,0,4,0,16,48,112,255,511,1023,1023,1023,0,10239,28671,65535],by kernel_rfl,?_⟩
   repeat refine o3 ?_
   refine clX (Qjs hx1.2.2.c hx1.2.2.at_ hxs) ?_
   repeat refine o1 ?_
   refine ⟨fun h5=>?_,fun h5=>?_⟩
   ·skip
    (simp only [Int.reduceToNat,UInt8.reduceOfNat] at h5)
    have c5:=h5
    (simp only [bsX] at c5)
    have hst:=Qbw (s:=⟨x::r,cf,af,0⟩) rfl rfl c5;have hR:stN n s=⟨x::r,cf,af,(Qi cf af x).2.2⟩:=by rw [← hx1.2.1,show n - i=(n - i - 1)+1 from by omega];show stN (n - i - 1) (st1 ⟨x::r,cf,af,0⟩)=_;rw [hst];exact Y2 (VM c5) _
    repeat refine o69 ?_
    trivial
   ·skip
    (simp only [Int.reduceToNat,UInt8.reduceOfNat] at h5)
    have c5:=h5
    (simp only [bsX] at c5)
    have hst:=QdU (s:=⟨x::r,cf,af,0⟩) rfl rfl c5;have hnx:i+1≤n∧stN (n - (i+1)) ⟨r,(Qi cf af x).1,(Qi cf af x).2.1,0⟩=stN n s∧StgOk ⟨r,(Qi cf af x).1,(Qi cf af x).2.1,0⟩:=⟨hlt,by rw [← hx1.2.1,show n - i=(n - (i+1))+1 from by omega];show _=stN (n - (i+1)) (st1 ⟨x::r,cf,af,0⟩);rw [hst],by rw [← hst];exact hx1.2.2.step⟩;refine ⟨[0,0,0,4,12,28,13,125,255,511,1023,2047],by kernel_rfl,?_⟩
    repeat refine o3 ?_
    refine clX (XD (L:=r) (by rw [Qy3] at hsl;omega)) ?_
    repeat refine o120 ?_
    refine Ql (i+1,⟨r,(Qi cf af x).1,(Qi cf af x).2.1,0⟩) ?_
    repeat refine o2 ?_
    trivial
  ·skip
   have c4:=h4
   (simp only [bsX] at c4)
   have hR:stN n s=p.2:=by rw [← hx1.2.1];by_cases q:p.2.rest=[];exact Y2 (Qbv q) _;by_cases q2:p.2.err=0;rw [show n - p.1=0 from by have:=List.length_pos_iff.2 q;omega];rfl;exact Y2 (VM q2) _
   repeat refine o69 ?_
   trivial
end
section
open Go.RowKit Go.Lib
def QgU (s:StgS):ConfS×Int:=if (stN 60 s).err=0 then ((stN 60 s).c,0) else (Q4,(stN 60 s).err)
theorem QuN {C:ConfS} {L:List SetS} (k:Nat) (hl:L.length≤60):QgU (stN k ⟨L,C,[],0⟩)=((ZX C L).1,(ZX C L).2.2):=by
 have h:=Qpy (L:=L) (c:=C) (a:=[]) (k+60) 0 (by omega);rw [Qde] at h;obtain ⟨h1,h2,h3⟩:=h;have e1:(ZX C L).2.2=(stN 60 (stN k ⟨L,C,[],0⟩)).err:=h1.symm;unfold QgU;by_cases q:(stN 60 (stN k ⟨L,C,[],0⟩)).err=0
 ·rw [if_pos q,e1,q];exact congrArg (fun z=>(z,(0:Int))) (h2 q)
 ·rw [if_neg q,e1];exact congrArg (fun z=>(z,(stN 60 (stN k ⟨L,C,[],0⟩)).err)) (h3 (by show ¬ (ZX C L).2.2=0;rw [e1];exact q)).symm
theorem Qpx {s:StgS} (h:StgOk s):Cf Tryz.prog 38 [] [Qb9 s] [] (.tup [Qp (QgU s).1,.i (QgU s).2]):=by
 have h60:=Vm (n:=60) h (by decide);have hok:=h.stN 60;refine QV {} Tryz.func38 Tryz.ntmps38 ?_;refine clX h60 ?_
 repeat refine o1 ?_
 refine knF ?_;refine ⟨fun h2=>?_,fun h2=>?_⟩
 ·skip
  have c2:=h2
  (simp only [bsX] at c2)
  have hR:QgU s=(Q4,(stN 60 s).err):=if_neg c2;refine ⟨[0,0,2,1,15],by kernel_rfl,?_⟩
  repeat refine o46 ?_
  trivial
 ·skip
  have c2:=h2
  (simp only [bsX] at c2)
  have hR:QgU s=((stN 60 s).c,0):=if_pos c2;refine clX (Xl hok.c) ?_
  repeat refine o121 ?_
  trivial
theorem Qg7 {l m:List RawS} {n0:Int} {k:Nat} {C:ConfS} {L:List SetS} {R:ConfS×Int×Int} (hl:∀ x∈l,x.inn) (hn:(l.length:Int)≤9223372036854775807) (hm:∀ x∈m,x.inn) (hmn:(m.length:Int)≤9223372036854775807) (hn0:YA n0) (hk:pk n0 30=(k:Int)) (eC:Yj l=C) (eL:WK m 20=L) (eR:ZX C L=R):Cf Tryz.prog 12 [] [QR l,QR m,.i n0] [] (.b true):=by
 have hC:ConfOk C:=eC ▸ Yk l;have hL:∀ s∈L,Qx s:=eL ▸ fun s hs=>⟨(Zv m 20 s hs).1,(Zv m 20 s hs).2.1⟩;have hLn:L.length≤20:=by rw [← eL,Q7];omega
 have hK:=Yo hl hn;rw [eC] at hK;have hS:=WL (m:=20) hm hmn (by decide);rw [eL] at hS;have hk30:k < 30:=by have:=QW n0 (m:=30) (by decide);omega
 have hkt:=VJ (L:=L) hL (by omega);have hbg:=QdW (s:=jtx (L.map ls1)) (L:=L) hC (Ju hL (by omega)).2.1;have hs0:StgOk ⟨L,C,[],0⟩:=⟨hC,hL,(by show L.length≤60;omega),.inl rfl,⟨Qze _,by show (0:Int)≤14;decide⟩⟩;have hst:=Vm (n:=k) hs0 (by omega);have hen:=Qpx (hs0.stN k);rw [QuN k (by omega),eR] at hen;have hrun:=XU hC hL (by omega);rw [eR] at hrun;have hRok:ConfOk R.1:=eR ▸ Xu hC hL;have hsm:WR R.1 R.1=true:=W6.2 rfl;have hpk:Cf Tryz.prog 27 [] [.i n0,.i 30] [] (.i (k:Int)):=Qd hn0 (by decide) hk;generalize stN k ⟨L,C,[],0⟩=T at hst hen;refine QV {} Tryz.func12 Tryz.ntmps12 ?_;refine clX hK ?_
 repeat refine o1 ?_
 refine clX hS ?_
 repeat refine o1 ?_
 refine ⟨[0,0,2,7,15,31,31,31,0,319,895,2047],by kernel_rfl,?_⟩;refine clX hkt ?_
 repeat refine o1 ?_
 refine clX hbg ?_
 repeat refine o1 ?_
 refine ⟨[0,0,2,7,15,31,31,0,191,511],by kernel_rfl,?_⟩;refine clX hpk ?_
 repeat refine o0 ?_
 refine clX hst ?_
 repeat refine o1 ?_
 refine clX hen ?_
 repeat refine o1 ?_
 refine clX hrun ?_
 repeat refine o1 ?_
 refine clX VX ?_
 repeat refine o20 ?_
 refine gx (fun hc=>(WM hRok hRok)) (fun hk=>⟨hk,?_⟩)
 repeat refine o65 ?_
 trivial
theorem QjL {l m:List RawS} {n0:Int} (hl:∀ x∈l,x.inn) (hn:(l.length:Int)≤9223372036854775807) (hm:∀ x∈m,x.inn) (hmn:(m.length:Int)≤9223372036854775807) (hn0:YA n0):Cf Tryz.prog 12 [] [QR l,QR m,.i n0] [] (.b true) :=
 Qg7 (k:=(pk n0 30).toNat) hl hn hm hmn hn0 (by have:=Q0 n0 (m:=30) (by decide);omega) rfl rfl rfl
end
namespace stageEnds
open Go.ChangeShapes Go.WideShapes Go.ChangeAt Go.RowKit
open Go.ChangeMaps (open_string shut_string)
def QN:List (String×DataW Unit):=[("math/bits.deBruijn32tab",Rows.laid_math_bits_deBruijn32tab),("math/bits.deBruijn64tab",Rows.laid_math_bits_deBruijn64tab),("internal/strconv.uint64pow10",Rows.laid_internal_strconv_uint64pow10),("unicode/utf8.acceptRanges",Rows.laid_unicode_utf8_acceptRanges),("unicode/utf8.first",Rows.laid_unicode_utf8_first)]
theorem Zw {W:World} (h:laidMetH Tryz.prog QN W):Amb W (Vp W):=by
 rw [MakeChecks.laidMetH_plain _ _ _ (by kernel_rfl)] at h;unfold QN at h;exact YT (laidMet.tail (laidMet.tail h))
theorem Z5 (os:Os) (started:os.Started) (H:Type) (enc:TypeId×Value→H) :
  ReturnsInHanded {} Tryz.checked os 12 .any (fun w args=>(Rows.stageEndsSpec.pre enc Tryz.prog Tryz.f12 Rows.stageEndsRow.domain false w args∧laidMetH Tryz.prog QN w)∧sizedMet enc Tryz.prog Tryz.f12 (OpenSpec.ofChange Rows.stageEndsSpec) false w args) (Rows.stageEndsSpec.post enc Tryz.prog Tryz.f12 false true false false):=by
 refine returnsInHanded_of_change_and (C:=Tryz.checked) (X:=fun w _=>laidMetH Tryz.prog QN w) (fun _ _ _ hh h=>h.of_heap hh) own started (by kernel_rfl) Tryz.func12
  (ChangeSpec.witness_shaped (enc:=enc) (C:=Tryz.checked) (os:=os) (X:=fun w _=>laidMetH Tryz.prog QN w) false (World.laidAll Tryz.prog os QN) #[.slice none 0 0,.slice none 0 0,.int .i64 0] 8 (World.laidAll_os _ _ _)
   (World.shaped_of_ZipB (by kernel_rfl) (by kernel_rfl)) (by kernel_rfl) (by kernel_rfl) (by kernel_rfl)
   (by rw [MakeChecks.laidMetH_plain _ _ _ (by kernel_rfl)];exact laidMet_laidAll _ (by kernel_rfl) (by kernel_rfl))) ?_
 intro W base args ds gs before hval0 hW hcnd hwt hL _;have hval:∀ (j:Nat) t v,Tryz.f12.params[j]? = some t→args[j]? = some v→Value.okWide Tryz.prog W .any base t v:=hval0;have hW':=hW;obtain ⟨p,q,hA0,hV,rfl,hfz,hnd⟩:=hW;have hA:DataW.TrodAll enc Tryz.prog W 0 (fun _=>true) true Tryz.f12.params.toList args.toList ds p:=hA0;rw [Tryz.params12] at hA hval;obtain ⟨v0,vs0,d0,ds0,p0,q0,hargs,rfl,rfl,h0,r0⟩:=trodAll_cons hA;obtain ⟨v1,vs1,d1,ds1,p1,q1,rfl,rfl,rfl,h1,r1⟩:=trodAll_cons r0;obtain ⟨v2,vs2,d2,ds2,p2,q2,rfl,rfl,rfl,h2,r2⟩:=trodAll_cons r1;obtain ⟨rfl,rfl,rfl⟩:=trodAll_nil r2;obtain rfl:args = #[v0,v1,v2]:=by cases args;simp_all
 obtain ⟨rfl,rfl⟩:=trodVars_none hV;have k0:=h0;have lt0:∀ x∈p0,x.block < W.heap.size:=by obtain ⟨m,hm⟩:=k0;exact DataW.trod_lt m _ _ _ hm
 have k1:=h1;have lt1:∀ x∈p1,x.block < W.heap.size:=by obtain ⟨m,hm⟩:=k1;exact DataW.trod_lt m _ _ _ hm
 have k2:=h2;have lt2:∀ x∈p2,x.block < W.heap.size:=by obtain ⟨m,hm⟩:=k2;exact DataW.trod_lt m _ _ _ hm
 obtain ⟨l0,ok0,z0⟩:=Wb (hval 0 _ v0 rfl rfl) h0;obtain ⟨l1,ok1,z1⟩:=Wb (hval 1 _ v1 rfl rfl) h1;obtain ⟨n2,rfl,_,_,wn2⟩:=open_int Tryz.underlying3 (hval 2 _ v2 rfl rfl) h2;have ok2:=VS wn2;clear hA0 hval0;refine (Z8 (vs:=[_,_,_]) (QjL ok0.2 (by have:=ok0.1;unfold maxLen at this;omega) ok1.2 (by have:=ok1.1;unfold maxLen at this;omega) ok2) (Zw hL) (Wd z0 (Wd z1 (Wd (Qjx _) VR)))).mono fun e W9 ⟨he,bel⟩=>?_;subst he;exact ⟨_,rfl,_,_,_,[],_,[],hW',trodAll_mk1 (shut_bool Tryz.underlying4 _),(trodAll_cons_mk (Below.trod WD (by kernel_rfl) (of_decide_eq_true (by kernel_rfl)) k0 bel lt0) (trodAll_cons_mk (Below.trod WD (by kernel_rfl) (of_decide_eq_true (by kernel_rfl)) k1 bel lt1) (trodAll_cons_mk (Below.trod WD (by kernel_rfl) (of_decide_eq_true (by kernel_rfl)) k2 bel lt2) trodAll_mk0))),rfl,bel.frame _,fun h=>by cases h⟩
theorem QaS:(Rows.stageEndsRow.inPlace == Tryz.pinned.checked.prog.inPlace 12)=true:=by kernel_rfl
theorem QaT:(Rows.stageEndsRow.unfollowed == Tryz.pinned.checked.prog.unfollowed 12)=true:=by kernel_rfl
theorem QaU:(Rows.stageEndsRow.recurses == Tryz.pinned.checked.prog.recurses 12)=true:=by kernel_rfl
theorem QaV:(Rows.stageEndsRow.named == Tryz.pinned.checked.prog.varsNamed 12)=true:=by kernel_rfl
theorem QaW:(Rows.stageEndsRow.plainKeys == Tryz.pinned.checked.prog.plainKeys)=true:=by kernel_rfl
theorem Z6:joinedFacts Tryz.pinned.checked.prog 12 Tryz.f12 Rows.stageEndsSpec Rows.stageEndsRow=true:=by
 unfold joinedFacts;exact Qc (Qc (Qc (Qc (Qc (Qc (Qc (Qc (Qc (Qc (Qc (Qc (Qc (Qc (Qc (Qc (Qc (Qc (Qc (Qc (Qc (Qc (Qc (Qc (Qc (Qc (Qc (Qc (Qc (Qc (Qc (by kernel_rfl) Qc6) Qc5) (by kernel_rfl)) (by kernel_rfl)) (by kernel_rfl)) (by kernel_rfl)) (by kernel_rfl)) (by kernel_rfl)) QaS) QaT) QaU) QaV) (by kernel_rfl)) (by kernel_rfl)) (by kernel_rfl)) (by kernel_rfl)) (by kernel_rfl)) (by kernel_rfl)) (by kernel_rfl)) (by kernel_rfl)) (by kernel_rfl)) QaW) (by kernel_rfl)) JX) JW) (YW (by kernel_rfl))) (XV (by kernel_rfl))) (by kernel_rfl)) (by kernel_rfl)) (by kernel_rfl)) (by kernel_rfl)
theorem QaX:Rows.stageEndsRow.holds Tryz.pinned (OpenSpec.ofChange Rows.stageEndsSpec) :=
 OpenClaim.holds_of_wide 12 Tryz.f12 rfl rfl rfl rfl rfl rfl rfl ⟨rfl,rfl,rfl,rfl,rfl⟩ rfl rfl rfl rfl rfl (by kernel_rfl) Tryz.func12 Z6
  (of_decide_eq_true (by kernel_rfl)) (by unfold Func.isWrapper;first | (rw [if_pos (by decide +kernel)];kernel_rfl) | (rw [if_neg (by decide +kernel)];exact ⟨rfl,rfl⟩))
  (fun os started H enc _=>Z5 os started H enc)
theorem pw1:Rows.stageEndsRow.wfByText (OpenSpec.ofChange Rows.stageEndsSpec)=true:=by kernel_rfl
theorem pw2:Tryz.pinned.checked.prog.mainIs=some ((true,"304393dc0cffdc476f139ebc5f59f91e4654f2b28d5098997c89b056d7c62b16").1,(true,"304393dc0cffdc476f139ebc5f59f91e4654f2b28d5098997c89b056d7c62b16").2.toList):=by kernel_rfl
theorem pw3:false=Tryz.pinned.checked.prog.looks []:=by kernel_rfl
theorem pw4:([22,22,3].all fun u=>!Tryz.prog.wantsStandIn u)=true:=by kernel_rfl
theorem pw5:false=Rows.stageEndsRow.goesBy Tryz.pinned.checked.prog:=by kernel_rfl
theorem pw6:Tryz.prog.funcNamed "cattlecreep/cattlecreepkeep.StageEnds" = some 12:=by kernel_rfl
theorem proved:Rows.StageEndsCardSaid :=
 Claim7.holds_tied_plain_at .later [] [.data,.data,.data,.data,.pinned] true (true,"304393dc0cffdc476f139ebc5f59f91e4654f2b28d5098997c89b056d7c62b16") false
  QaX (fun _ h=>by cases h) pw1 (fun _ h=>by cases h) stageEnds_row_tie rfl ⟨rfl,rfl⟩ pw2 rfl
  (fun f fn hf hfn=>by
   obtain rfl:f=12:=Option.some.inj (pw6.symm.trans hf) |>.symm;obtain rfl:fn=Tryz.f12:=(Option.some.inj (Tryz.func12.symm.trans hfn)).symm
   exact ⟨pw3,fun j t ht=>by
    rw [Tryz.params12] at ht;have hm:t∈[22,22,3]:=by simpa using Array.mem_of_getElem? ht
    exact (show Tryz.prog.wantsStandIn t=false by simpa using List.all_eq_true.1 pw4 t hm)⟩)
  pw5
#print axioms proved
end stageEnds
end Go.Proofs.YtcebndkiagbddaaGreatDoor
