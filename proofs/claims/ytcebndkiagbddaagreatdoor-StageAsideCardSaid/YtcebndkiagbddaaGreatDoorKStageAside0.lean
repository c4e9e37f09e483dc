/- A part of the proof: contracts of functions and what they stand on. Written shorter and merged by a program (pack.py). -/
import Derived.Lib.BitFns
import Derived.Lib.ItoaNum
import Derived.Lib.Repeat
import Derived.Test.YtcebndkiagbddaaGreatDoorRows
import Derived.WalkKit
import Derived.ProofKit
import Derived.OpenShut
import Derived.ShutString
import Derived.ChangeOld
import Derived.Below
import Derived.Lib.SmallJoins
import Derived.Test.YtcebndkiagbddaaGreatDoorProg
import Derived.Test.YtcebndkiagbddaaGreatDoorK44
set_option linter.unusedVariables false
set_option linter.unusedSimpArgs false
set_option maxRecDepth 100000
set_option maxHeartbeats 4000000
open List renaming length_cons → Qy3, length_append → Qy4, length_nil → Qy5, getD_eq_getElem?_getD → Qy7, getElem?_eq_getElem → Qza
open Nat renaming zero_add → Qy6, zero_le → Qy9, le_trans → Qzc
open Bool renaming and_eq_true → Qy8
open Eq renaming refl → Qzb
namespace Go.Proofs.YtcebndkiagbddaaGreatDoor
section
end
section
end
section
theorem Wt (n:Int):WA (QC n)=0:=by obtain ⟨j,h,e,_⟩:=Xb n;rw [e];exact Ys j h
end
section
open Go.RowKit
end
section
open Go.RowKit
theorem YX (n:Int):QC n≠WT:=by obtain ⟨j,h,e,_⟩:=Xb n;rw [e];exact QbW j h
end
section
open Go.RowKit
end
section
open Go.RowKit
end
section
open Go.ChangeShapes Go.WideShapes Go.ChangeAt Go.RowKit
open Go.ChangeMaps (open_string shut_string)
section
variable {w:World} {Pub:Nat→Nat→Prop} {φ:Qt}
theorem Qjx (u:Value):RA w Pub φ (EV.v u).av u:=by unfold EV.av RA RP;rfl
end
end
section
open Go.RowKit Go.Lib
theorem Cf.resAv {P:Program} {f:FuncId} {hin hout:List (Nat×EB)} {ags:List EV} {r r':EV} (h:r.av=r'.av) (k:Cf P f hin ags hout r):Cf P f hin ags hout r':=by
 unfold Cf Ct at k ⊢;rw [← h];exact k
end
section
open Go.RowKit Go.Lib
def QB (p q:PeerS):Bool:=(((decide (p.k=q.k) && decide (p.s=q.s)) && decide (p.e=q.e)) && decide (p.a=q.a)) && decide (p.ns=q.ns)
theorem QH {p q:PeerS}:QB p q=true↔p=q:=by
 unfold QB;simp only [Qy8,decide_eq_true_eq];constructor
 ·rintro ⟨⟨⟨⟨h1,h2⟩,h3⟩,h4⟩,h5⟩;cases p;cases q;simp only at h1 h2 h3 h4 h5;subst h1 h2 h3 h4 h5;rfl
 ·rintro rfl;exact ⟨⟨⟨⟨rfl,rfl⟩,rfl⟩,rfl⟩,rfl⟩
def Qr:List PeerS→List PeerS→Bool
 | [],[]=>true
 | p::ps,q::qs=>QB p q && Qr ps qs
 | _,_=>false
theorem Qj:∀ {ps qs:List PeerS},Qr ps qs=true↔ps=qs
 | [],[]=>⟨fun _=>rfl,fun _=>rfl⟩
 | [],q::qs=>⟨fun h=>(by cases h),fun h=>(by cases h)⟩
 | p::ps,[]=>⟨fun h=>(by cases h),fun h=>(by cases h)⟩
 | p::ps,q::qs=>by
  unfold Qr;rw [Qy8,QH,Qj,List.cons.injEq]
def WR (a b:ConfS):Bool:=(decide (a.k=b.k) && decide (a.port=b.port)) && Qr a.ps b.ps
theorem W6 {a b:ConfS}:WR a b=true↔a=b:=by
 unfold WR;rw [Qy8,Qy8,decide_eq_true_eq,decide_eq_true_eq,Qj];constructor
 ·rintro ⟨⟨h1,h2⟩,h3⟩;cases a;cases b;simp only at h1 h2 h3;subst h1 h2 h3;rfl
 ·rintro rfl;exact ⟨⟨rfl,rfl⟩,rfl⟩
theorem QO {A:Type} {d:A} {l m:List A} (hl:l.length=m.length) (h:∀ i,i < l.length→l.getD i d=m.getD i d):l=m:=by
 refine List.ext_getElem hl fun i h1 h2=>?_;have:=h i h1;rw [Qy7,Qy7,Qza h1,Qza h2] at this;exact this
theorem W7 {ps qs:List PeerS} (h:¬ ps.length=qs.length):Qr ps qs=false:=by
 cases e:Qr ps qs with
 | false=>rfl
 | true=>exact absurd (congrArg List.length (Qj.1 e)) h
theorem ZH {ps qs:List PeerS} {i:Nat} (h:QB (ps.getD i Qa) (qs.getD i Qa)=false):Qr ps qs=false:=by
 cases e:Qr ps qs with
 | false=>rfl
 | true =>
  rw [Qj.1 e,QH.2 rfl] at h;cases h
theorem W8 {ps qs:List PeerS} (hl:ps.length=qs.length) (h:∀ j,j < ps.length→QB (ps.getD j Qa) (qs.getD j Qa)=true):Qr ps qs=true :=
 Qj.2 (QO hl fun i hi=>QH.1 (h i hi))
theorem Ya {ns ms:List (List Bool)} (hl:ns.length≤1000) (hn:∀ x∈ns,x.length≤32) (hm:ms.length≤1000):Cf Tryz.prog 68 [] [Qg ns,Qg ms] [] (.b (decide (ns=ms))):=by
 refine QV {} Tryz.func68 Tryz.ntmps68 ?_;refine ⟨fun h1=>?_,fun h1=>?_⟩
 ·skip
  have c1:=h1
  (simp only [bsX] at c1)
  have hR:decide (ns=ms)=false:=decide_eq_false fun e=>by (rw [e] at c1;omega)
  repeat refine o8 ?_
  trivial
 ·skip
  have c1:=h1
  (simp only [bsX] at c1)
  have hle:ns.length=ms.length:=by omega
  refine ⟨Nat,fun i=>⟨[(0,Qg ns),(1,Qg ms),(12,.i (ns.length:Int)),(13,.i (i:Int))],[]⟩,fun i=>i≤ns.length ∧ ∀ j,j < i→ns.getD j []=ms.getD j [],fun i=>ns.length - i,0,⟨Qy9 _,fun j hj=>absurd hj (Nat.not_lt_zero _)⟩,?_,fun i hx1=>?_⟩
  ·skip
   repeat refine o7 ?_
   trivial
  refine ⟨fun h2=>?_,fun h2=>?_⟩
  ·skip
   have c2:=h2
   (simp only [bsX] at c2)
   have hi:i < ns.length:=by omega
   refine ⟨[0,0,3,7,0,0,48,112,255],by kernel_rfl,?_⟩
   repeat refine o4 ?_
   refine ⟨fun h3=>?_,fun h3=>?_⟩
   ·skip
    have c3:=h3
    (simp only [bsX] at c3)
    have hR:decide (ns=ms)=false:=decide_eq_false fun e=>by (subst e;simp at h3)
    repeat refine o8 ?_
    trivial
   ·skip
    have c3:=h3
    (simp only [bsX] at c3)
    have hE:ns.getD i []=ms.getD i []:=of_decide_eq_true ((YS (ZQ hn i)).symm.trans (by simpa using h3));have hnx:i+1≤ns.length ∧ ∀ j,j < i+1→ns.getD j []=ms.getD j []:=⟨hi,fun j hj=>(Nat.lt_or_ge j i).elim (hx1.2 j) fun q=>by rw [show j=i from by omega];exact hE⟩
    repeat refine o3 ?_
    refine Ql (i+1) ?_
    repeat refine o7 ?_
    trivial
  ·skip
   have c2:=h2
   (simp only [bsX] at c2)
   have hR:decide (ns=ms)=true:=decide_eq_true (QO hle fun j hj=>hx1.2 j (by omega))
   repeat refine o8 ?_
   trivial
theorem Wc {p q:PeerS} (hp:PeerOk p) (hq:PeerOk q):Cf Tryz.prog 68 [] [Qg p.ns,Qg q.ns] [] (.b (decide (p.ns=q.ns))):=Ya (Qzc hp.nl (by decide)) hp.nb (Qzc hq.nl (by decide))
theorem Za {p q:PeerS} (hp:PeerOk p) (hq:PeerOk q):Cf Tryz.prog 67 [] [ZS p,ZS q] [] (.b (QB p q)):=by
 refine Qs {} Tryz.func67 Tryz.ntmps67 ?_
 repeat refine o19 ?_
 refine gx (fun hc=>(Wc hp hq)) (fun hk=>⟨hk,?_⟩)
 repeat refine o24 ?_
 trivial
theorem Wj {ps qs:List PeerS} (hl:ps.length≤1000) (hp:∀ p∈ps,PeerOk p) (hq:∀ p∈qs,PeerOk p):Cf Tryz.prog 66 [] [Qo ps,Qo qs,.v (.func (.func 67) #[] #[])] [] (.b (Qr ps qs)):=by
 refine Qs {} Tryz.func66 Tryz.ntmps66 ?_;refine ⟨fun h1=>?_,fun h1=>?_⟩
 ·skip
  have c1:=h1
  (simp only [bsX] at c1)
  have hR:=W7 (ps:=ps) (qs:=qs) (by omega)
  repeat refine o8 ?_
  trivial
 ·skip
  have c1:=h1
  (simp only [bsX] at c1)
  have hle:ps.length=qs.length:=by omega
  refine ⟨Nat,fun i=>⟨[(1,Qo qs),(2,.v (.func (.func 67) #[] #[])),(15,Qo ps),(16,.i (ps.length:Int)),(17,.i (i:Int))],[]⟩,fun i=>i≤ps.length ∧ ∀ j,j < i→QB (ps.getD j Qa) (qs.getD j Qa)=true,fun i=>ps.length - i,0,⟨Qy9 _,fun j hj=>absurd hj (Nat.not_lt_zero _)⟩,?_,fun i hx1=>?_⟩
  ·skip
   repeat refine o7 ?_
   trivial
  refine ⟨fun h2=>?_,fun h2=>?_⟩
  ·skip
   have c2:=h2
   (simp only [bsX] at c2)
   have hi:i < ps.length:=by omega
   repeat refine o4 ?_
   refine clX (Za (p:=ps.getD i Qa) (q:=qs.getD i Qa) (hp _ (QY (c:=⟨[],0,ps⟩) hi)) (hq _ (QY (c:=⟨[],0,qs⟩) (show i < qs.length by omega)))) ?_
   repeat refine o7 ?_
   refine ⟨fun h3=>?_,fun h3=>?_⟩
   ·skip
    have c3:=h3
    (simp only [bsX] at c3)
    have hR:=ZH (ps:=ps) (qs:=qs) (i:=i) (by simpa using h3)
    repeat refine o8 ?_
    trivial
   ·skip
    have c3:=h3
    (simp only [bsX] at c3)
    have hE:QB (ps.getD i Qa) (qs.getD i Qa)=true:=by simpa using h3
    have hnx:i+1≤ps.length ∧ ∀ j,j < i+1→QB (ps.getD j Qa) (qs.getD j Qa)=true:=⟨hi,fun j hj=>(Nat.lt_or_ge j i).elim (hx1.2 j) fun q=>by rw [show j=i from by omega];exact hE⟩
    repeat refine o3 ?_
    refine Ql (i+1) ?_
    repeat refine o7 ?_
    trivial
  ·skip
   have c2:=h2
   (simp only [bsX] at c2)
   have hR:=W8 hle fun j hj=>hx1.2 j (by omega)
   repeat refine o8 ?_
   trivial
theorem WM {a b:ConfS} (ha:ConfOk a) (hb:ConfOk b):Cf Tryz.prog 24 [] [Qp a,Qp b] [] (.b (WR a b)):=by
 refine Qs {} Tryz.func24 Tryz.ntmps24 ?_
 repeat refine o19 ?_
 refine gx (fun hc=>(Wj (ps:=a.ps) (qs:=b.ps) (Qzc ha.pl (by decide)) (fun p hp=>(ha.ps p hp).1) (fun p hp=>(hb.ps p hp).1))) (fun hk=>⟨hk,?_⟩)
 repeat refine o24 ?_
 trivial
end
section
open Go.Lib
structure StgS where
 rest:List SetS
 c:ConfS
 at_:List UInt8
 err:Int
def st1 (s:StgS):StgS:=match s.rest with
 | []=>s
 | x::r=>if s.err=0 then (if (Qi s.c s.at_ x).2.2=0 then ⟨r,(Qi s.c s.at_ x).1,(Qi s.c s.at_ x).2.1,0⟩ else ⟨x::r,s.c,s.at_,(Qi s.c s.at_ x).2.2⟩) else s
def stN:Nat→StgS→StgS
 | 0,s=>s
 | n+1,s=>stN n (st1 s)
theorem Qbv {s:StgS} (h:s.rest=[]):st1 s=s:=by unfold st1;rw [h]
theorem VM {s:StgS} (h:¬ s.err=0):st1 s=s:=by
 unfold st1
 cases q:s.rest with
 | nil=>rfl
 | cons x r=>simp only [if_neg h]
theorem Y2 {s:StgS} (h:st1 s=s):∀ n,stN n s=s
 | 0=>rfl
 | n+1=>by show stN n (st1 s)=s;rw [h];exact Y2 h n
theorem QdU {s:StgS} {x:SetS} {r:List SetS} (h:s.rest=x::r) (he:s.err=0) (ho:(Qi s.c s.at_ x).2.2=0):st1 s=⟨r,(Qi s.c s.at_ x).1,(Qi s.c s.at_ x).2.1,0⟩:=by
 unfold st1;rw [h];simp only [if_pos he,if_pos ho]
theorem Qbw {s:StgS} {x:SetS} {r:List SetS} (h:s.rest=x::r) (he:s.err=0) (ho:¬ (Qi s.c s.at_ x).2.2=0):st1 s=⟨x::r,s.c,s.at_,(Qi s.c s.at_ x).2.2⟩:=by
 unfold st1;rw [h];simp only [if_pos he,if_neg ho]
structure StgOk (s:StgS):Prop where
 c:ConfOk s.c
 rest:∀ x∈s.rest,Qx x
 len:s.rest.length≤60
 at_:Qb0 s.at_
 err:0≤s.err∧s.err≤14
def QdV (o:QlB):Prop:=0≤o.2.2∧o.2.2≤14
theorem Q2 {p:Prop} [Decidable p] {a b:QlB} (h:QdV a) (k:QdV b):QdV (if p then a else b):=by split <;> assumption
theorem Zb (c:ConfS) (a:List UInt8):QdV (c,a,0):=⟨Int.le_refl _,by show (0:Int)≤14;decide⟩
theorem Qb8 {e:Int} (h:0≤e∧e≤14):QdV (noS e):=h
theorem QjJ (c:ConfS) (a:List UInt8) (s:SetS):0≤(Qi c a s).2.2∧(Qi c a s).2.2≤14:=by
 show QdV (Qi c a s);unfold Qi Qes;have n14:=Qb8 (e:=14) (by decide);have n7:=Qb8 (e:=7) (by decide);have n13:=Qb8 (e:=13) (by decide)
 exact Q2 (Q2 (Zb _ _) n14) (Q2 (Zb _ _) (Q2 (Zb _ _) (Q2 (Q2 n14 (Q2 (Zb _ _) (Q2 n7 (Zb _ _)))) (Q2 n13
  (Q2 (Zb _ _) (Q2 (Zb _ _) (Q2 (Zb _ _) (Q2 (Zb _ _) (Q2 (Zb _ _) (Q2 n7 (Zb _ _)))))))))))
theorem StgOk.step {s:StgS} (h:StgOk s):StgOk (st1 s):=by
 cases q:s.rest with
 | nil=>rw [Qbv q];exact h
 | cons x r =>
  have hx:Qx x:=h.rest x (by rw [q];exact List.mem_cons_self ..);have hl:=h.len;rw [q,Qy3] at hl;by_cases he:s.err=0
  ·obtain ⟨a,b⟩:=Xs h.c h.at_ hx;by_cases ho:(Qi s.c s.at_ x).2.2=0
   ·rw [QdU q he ho];exact ⟨a,fun y hy=>h.rest y (by rw [q];exact List.mem_cons_of_mem _ hy),by show r.length≤60;omega,b,⟨Int.le_refl _,by show (0:Int)≤14;decide⟩⟩
   ·rw [Qbw q he ho];exact ⟨h.c,fun y hy=>h.rest y (by rw [q];exact hy),by show (x::r).length≤60;rw [Qy3];omega,h.at_,QjJ _ _ _⟩
  ·rw [VM he];exact h
theorem StgOk.stN {s:StgS} (h:StgOk s):∀ n,StgOk (stN n s)
 | 0=>h
 | n+1=>h.step.stN n
end
section
open Go.RowKit Go.Lib
def kdR (r:RawS):Int:=if pk r.b 3=0 then (if pk r.a 2=0 then 4 else 10) else 1+pk r.k 10
def stK (k:Int) (r:RawS):SetS :=
 ⟨k,if k=1∨k=4 then QC r.a else if k=6 then (if pk r.b 2=0 then [] else QC r.a) else if k=7 then endL.getD (1+pk r.a 4).toNat [] else [],
  if k=2∨k=8 then pk r.a 65536 else 0,if k=10 then Vo r.k r.a r.b else []⟩
def stR (r:RawS):SetS:=stK (kdR r) r
theorem Wi (r:RawS):1≤kdR r∧kdR r≤10:=by
 have h1:=Q0 r.k (m:=10) (by decide);have h2:=QW r.k (m:=10) (by decide);unfold kdR;split
 ·split <;> omega
 ·omega
theorem YY (r:RawS):∀ k:Int,1≤k→k≤10→QP (stK k r)=0:=by
 intro k h1 h2;rcases QaM k h1 h2 with rfl | rfl | rfl | rfl | rfl | rfl | rfl | rfl | rfl | rfl
 ·exact (show QP ⟨1,QC r.a,0,[]⟩=WA (QC r.a) from rfl).trans (Wt _)
 ·exact ZZ (.inl rfl) (Q0 _ (by decide)) (by have:=QW r.a (m:=65536) (by decide);omega)
 ·rfl
 ·exact (show QP ⟨4,QC r.a,0,[]⟩=WA (QC r.a) from rfl).trans (Wt _)
 ·rfl
 ·show QP ⟨6,if pk r.b 2=0 then [] else QC r.a,0,[]⟩=0;by_cases h:pk r.b 2=0
  ·rw [if_pos h];rfl
  ·rw [if_neg h];have e:QP ⟨6,QC r.a,0,[]⟩=if QC r.a=[] then 0 else if QC r.a=WT then 3 else WA (QC r.a):=rfl
   rw [e,Wt,if_neg (YX _)];split <;> rfl
 ·have h3:=Q0 r.a (m:=4) (by decide);have h4:=QW r.a (m:=4) (by decide);exact (show QP ⟨7,endL.getD (1+pk r.a 4).toNat [],0,[]⟩=Y3 (endL.getD (1+pk r.a 4).toNat []) from rfl).trans (QbV ⟨(1+pk r.a 4).toNat,by omega⟩ (by show (1+pk r.a 4).toNat≠0;omega))
 ·exact ZZ (.inr rfl) (Q0 _ (by decide)) (by have:=QW r.a (m:=65536) (by decide);omega)
 ·rfl
 ·rfl
theorem Zt (r:RawS):QP (stR r)=0:=YY r _ (Wi r).1 (Wi r).2
theorem Zu (r:RawS):(stR r).p.length≤32:=by
 show (if kdR r=10 then Vo r.k r.a r.b else []).length≤32;split
 ·exact Yh
 ·decide
def WK (l:List RawS) (m:Nat):List SetS:=(List.range (min l.length m)).map fun i=>stR (rA l i)
theorem Q7 (l:List RawS) (m:Nat):(WK l m).length=min l.length m:=by unfold WK;simp
theorem YZ (l:List RawS) (m:Nat):∀ i,i < min l.length m → ∀ j,j < 5→(fun a b=>stc (stR (rA l a)) b) i j=stF (WK l m) i j:=by
 intro i hi j hj;show stc (stR (rA l i)) j=stc ((WK l m).getD i Qm) j;unfold WK;rw [Qy7,List.getElem?_map,List.getElem?_range hi];rfl
theorem Zv (l:List RawS) (m:Nat):∀ x∈WK l m,QP x=0∧x.p.length≤32∧Vg x:=fun x hx=>by
 obtain ⟨i,_,rfl⟩:=List.mem_map.1 hx;exact ⟨Zt _,Zu _,Xz (Zt _) (Zu _)⟩
theorem Vi {r:RawS} (h:pk r.b 2=0):stK 6 r=⟨6,[],0,[]⟩:=by
 show SetS.mk 6 (if pk r.b 2=0 then [] else QC r.a) 0 []=_;rw [if_pos h]
theorem Vj {r:RawS} (h:pk r.b 2=1):stK 6 r=⟨6,QC r.a,0,[]⟩:=by
 show SetS.mk 6 (if pk r.b 2=0 then [] else QC r.a) 0 []=_;rw [if_neg (by omega)]
theorem pk2 (n:Int):pk n 2=0∨pk n 2=1:=by
 have h1:=Q0 n (m:=2) (by decide);have h2:=QW n (m:=2) (by decide);omega
theorem QgK (n:Int):pk n 10=0∨pk n 10=1∨pk n 10=2∨pk n 10=3∨pk n 10=4∨pk n 10=5∨pk n 10=6∨pk n 10=7∨pk n 10=8∨pk n 10=9:=by
 have h1:=Q0 n (m:=10) (by decide);have h2:=QW n (m:=10) (by decide);omega
theorem Qd {n m q:Int} (hn:YA n) (hm:0 < m) (hq:pk n m=q):Cf Tryz.prog 27 [] [.i n,.i m] [] (.i q):=hq ▸ Wh hn.1 hn.2 hm
theorem Vk {r:RawS}:∀ j,j < 5→(stq (stR r) j).pv=(stc (stR r) j).pv:=by
 intro j hj
 match j,hj with
 | 0,_=>rfl
 | 1,_=>rfl
 | 2,_=>rfl
 | 4,_=>rfl
 | 3,_ =>
  show (if (stR r).k=10 then EV.u32 (adr (stR r).p) else .v (.int .u32 0)).pv=(EV.u32 (adr (stR r).p)).pv;by_cases h:(stR r).k=10
  ·rw [if_pos h]
  ·rw [if_neg h]
   have e:(stR r).p=[]:=by
    show (if kdR r=10 then Vo r.k r.a r.b else [])=[];exact if_neg h
   rw [e];rfl
theorem Wu {l:List RawS} {m:Nat} (hl:∀ x∈l,x.inn) (hn:(l.length:Int)≤9223372036854775807) (hm:m≤100):Cf Tryz.prog 25 [] [QR l,.i (m:Int)] [] (.lz (min l.length m) 5 (fun a b=>stq (stR (rA l a)) b)):=by
 refine QV {nl:=[(5,48,5)]} Tryz.func25 Tryz.ntmps25 ?_;refine ⟨Nat,fun i=>⟨[(1,.i (m:Int)),(5,.osl 1005 (min i m)),(9,QR l),(10,.i (l.length:Int)),(11,.i (i:Int))],[(1005,.rz (min i m) 5 (fun a b=>stq (stR (rA l a)) b) 48 0)]⟩,fun i=>i≤l.length∧i≤m,fun i=>l.length - i,0,⟨Qy9 _,Qy9 _⟩,?_,fun i hx1=>?_⟩
 ·skip
  repeat refine o17 ?_
  trivial
 refine ⟨fun h1=>?_,fun h1=>?_⟩
 ·skip
  have c1:=h1
  (simp only [bsX] at c1)
  have hi:i < l.length:=by omega
  have hI:=Qge hl hi;obtain ⟨q,hq⟩:∃ q:Int,pk (rA l i).k 10=q:=⟨_,rfl⟩;obtain ⟨b2,hb2⟩:∃ q:Int,pk (rA l i).b 2=q:=⟨_,rfl⟩;obtain ⟨a2,ha2⟩:∃ q:Int,pk (rA l i).a 2=q:=⟨_,rfl⟩;have hq10:=QgK (rA l i).k;have hb22:=pk2 (rA l i).b;have ha22:=pk2 (rA l i).a;rw [hq] at hq10;rw [hb2] at hb22;rw [ha2] at ha22
  repeat refine o3 ?_
  refine ⟨fun h2=>?_,fun h2=>?_⟩
  ·skip
   have c2:=h2
   (simp only [bsX] at c2)
   have him:i=m:=by have:=hx1.2;omega
   repeat refine o17 ?_
   trivial
  ·skip
   have c2:=h2
   (simp only [bsX] at c2)
   have him:min i m=i:=by have:=hx1.2;omega
   have him1:min (i+1) m=min i m+1:=by (have:=hx1.2);omega
   refine clX (Qd hI.1 (by decide) hq) ?_
   repeat refine o12 ?_
   refine clX (Qd (q:=pk (rA l i).b 3) hI.2.2.1 (by decide) rfl) ?_
   repeat refine o12 ?_
   refine ⟨fun h3=>?_,fun h3=>?_⟩
   ·skip
    have c3:=h3
    (simp only [bsX] at c3)
    rcases ha22 with rfl | rfl
    ·skip
     refine clX (Qd hI.2.1 (by decide) ha2) ?_
     repeat refine o12 ?_
     have hkd:kdR (rA l i)=4:=by unfold kdR;((rw [if_pos c3,ha2];rfl))
     have hE:stR (rA l (min i m))=stK 4 (rA l i):=by rw [him];unfold stR;rw [hkd]
     refine knF (knT ?_);refine clX (Wg (n:=(rA l i).a) hI.2.1) ?_
     repeat refine o5 ?_
     refine ⟨i+1,(by omega),(by (simp only [SrcE.len,Qy6,Qy4,Qy3,Qy5];omega)),?_⟩
     repeat refine o6 ?_
     trivial
    ·skip
     refine clX (Qd hI.2.1 (by decide) ha2) ?_
     repeat refine o12 ?_
     have hkd:kdR (rA l i)=10:=by unfold kdR;((rw [if_pos c3,ha2];rfl))
     have hE:stR (rA l (min i m))=stK 10 (rA l i):=by rw [him];unfold stR;rw [hkd]
     refine knF (knF (knF (knF (knF (knF (knT ?_))))));refine clX (ZP (s:=(rA l i).s) hI.1 hI.2.1 hI.2.2.1) ?_
     repeat refine o5 ?_
     refine ⟨i+1,(by omega),(by (simp only [SrcE.len,Qy6,Qy4,Qy3,Qy5];omega)),?_⟩
     repeat refine o6 ?_
     trivial
   ·skip
    have c3:=h3
    (simp only [bsX] at c3)
    rcases hq10 with rfl | rfl | rfl | rfl | rfl | rfl | rfl | rfl | rfl | rfl
    ·skip
     have hkd:kdR (rA l i)=1:=by unfold kdR;((rw [if_neg c3,hq];rfl))
     have hE:stR (rA l (min i m))=stK 1 (rA l i):=by rw [him];unfold stR;rw [hkd]
     refine knT (knT ?_);refine clX (Wg (n:=(rA l i).a) hI.2.1) ?_
     repeat refine o5 ?_
     refine ⟨i+1,(by omega),(by (simp only [SrcE.len,Qy6,Qy4,Qy3,Qy5];omega)),?_⟩
     repeat refine o6 ?_
     trivial
    ·skip
     have hkd:kdR (rA l i)=2:=by unfold kdR;((rw [if_neg c3,hq];rfl))
     have hE:stR (rA l (min i m))=stK 2 (rA l i):=by rw [him];unfold stR;rw [hkd]
     refine knF (knF (knF (knF (knT (knT ?_)))));refine clX (Qd (q:=pk (rA l i).a 65536) hI.2.1 (by decide) rfl) ?_
     repeat refine o5 ?_
     refine ⟨i+1,(by omega),(by (simp only [SrcE.len,Qy6,Qy4,Qy3,Qy5];omega)),?_⟩
     repeat refine o6 ?_
     trivial
    ·skip
     have hkd:kdR (rA l i)=3:=by unfold kdR;((rw [if_neg c3,hq];rfl))
     have hE:stR (rA l (min i m))=stK 3 (rA l i):=by rw [him];unfold stR;rw [hkd]
     refine knF (knF (knF (knF (knF (knF (knF ?_))))))
     repeat refine o5 ?_
     refine ⟨i+1,(by omega),(by (simp only [SrcE.len,Qy6,Qy4,Qy3,Qy5];omega)),?_⟩
     repeat refine o6 ?_
     trivial
    ·skip
     have hkd:kdR (rA l i)=4:=by unfold kdR;((rw [if_neg c3,hq];rfl))
     have hE:stR (rA l (min i m))=stK 4 (rA l i):=by rw [him];unfold stR;rw [hkd]
     refine knF (knT ?_);refine clX (Wg (n:=(rA l i).a) hI.2.1) ?_
     repeat refine o5 ?_
     refine ⟨i+1,(by omega),(by (simp only [SrcE.len,Qy6,Qy4,Qy3,Qy5];omega)),?_⟩
     repeat refine o6 ?_
     trivial
    ·skip
     have hkd:kdR (rA l i)=5:=by unfold kdR;((rw [if_neg c3,hq];rfl))
     have hE:stR (rA l (min i m))=stK 5 (rA l i):=by rw [him];unfold stR;rw [hkd]
     refine knF (knF (knF (knF (knF (knF (knF ?_))))))
     repeat refine o5 ?_
     refine ⟨i+1,(by omega),(by (simp only [SrcE.len,Qy6,Qy4,Qy3,Qy5];omega)),?_⟩
     repeat refine o6 ?_
     trivial
    ·skip
     have hkd:kdR (rA l i)=6:=by unfold kdR;((rw [if_neg c3,hq];rfl))
     have hE:stR (rA l (min i m))=stK 6 (rA l i):=by rw [him];unfold stR;rw [hkd]
     refine knF (knF ?_);refine ⟨fun h13=>?_,fun h13=>?_⟩
     ·skip
      have c13:=h13
      (simp only [bsX] at c13)
      rcases (by omega:b2=0∨b2=1) with rfl | rfl
      ·skip
       rw [Vi hb2] at hE;refine ⟨[0,1,3,7,0,16,55,127,255,511,1023],by kernel_rfl,?_⟩;refine clX (Wg (n:=(rA l i).a) hI.2.1) ?_
       repeat refine o0 ?_
       refine clX (Qd (q:=0) hI.2.2.1 (by decide) hb2) ?_
       repeat refine o5 ?_
       refine ⟨i+1,(by omega),(by (simp only [SrcE.len,Qy6,Qy4,Qy3,Qy5];omega)),?_⟩
       repeat refine o6 ?_
       trivial
      ·skip
       rw [Vj hb2] at hE;refine ⟨[0,1,3,7,0,16,55,127,255,511,1023],by kernel_rfl,?_⟩;refine clX (Wg (n:=(rA l i).a) hI.2.1) ?_
       repeat refine o0 ?_
       refine clX (Qd (q:=1) hI.2.2.1 (by decide) hb2) ?_
       repeat refine o5 ?_
       refine ⟨i+1,(by omega),(by (simp only [SrcE.len,Qy6,Qy4,Qy3,Qy5];omega)),?_⟩
       repeat refine o6 ?_
       trivial
     ·skip
      have c13:=h13
      (simp only [bsX] at c13)
      exact absurd (show true=false from h13) (by decide)
    ·skip
     have hkd:kdR (rA l i)=7:=by unfold kdR;((rw [if_neg c3,hq];rfl))
     have hE:stR (rA l (min i m))=stK 7 (rA l i):=by rw [him];unfold stR;rw [hkd]
     refine knF (knF (knF (knT ?_)));have g1:=Q0 (rA l i).a (m:=4) (by decide);have g2:=QW (rA l i).a (m:=4) (by decide);refine ⟨[0,0,2,1,9,25,63,127,255,511,1023,2047],by kernel_rfl,?_⟩;refine clX Zo ?_;refine clX Zo ?_
     repeat refine o3 ?_
     refine clX (Qd (m:=4) (q:=pk (rA l i).a 4) hI.2.1 (by decide) rfl) ?_
     repeat refine o5 ?_
     refine ⟨i+1,(by omega),(by (simp only [SrcE.len,Qy6,Qy4,Qy3,Qy5];omega)),?_⟩
     repeat refine o6 ?_
     trivial
    ·skip
     have hkd:kdR (rA l i)=8:=by unfold kdR;((rw [if_neg c3,hq];rfl))
     have hE:stR (rA l (min i m))=stK 8 (rA l i):=by rw [him];unfold stR;rw [hkd]
     refine knF (knF (knF (knF (knF (knT ?_)))));refine clX (Qd (q:=pk (rA l i).a 65536) hI.2.1 (by decide) rfl) ?_
     repeat refine o5 ?_
     refine ⟨i+1,(by omega),(by (simp only [SrcE.len,Qy6,Qy4,Qy3,Qy5];omega)),?_⟩
     repeat refine o6 ?_
     trivial
    ·skip
     have hkd:kdR (rA l i)=9:=by unfold kdR;((rw [if_neg c3,hq];rfl))
     have hE:stR (rA l (min i m))=stK 9 (rA l i):=by rw [him];unfold stR;rw [hkd]
     refine knF (knF (knF (knF (knF (knF (knF ?_))))))
     repeat refine o5 ?_
     refine ⟨i+1,(by omega),(by (simp only [SrcE.len,Qy6,Qy4,Qy3,Qy5];omega)),?_⟩
     repeat refine o6 ?_
     trivial
    ·skip
     have hkd:kdR (rA l i)=10:=by unfold kdR;((rw [if_neg c3,hq];rfl))
     have hE:stR (rA l (min i m))=stK 10 (rA l i):=by rw [him];unfold stR;rw [hkd]
     refine knF (knF (knF (knF (knF (knF (knT ?_))))));refine clX (ZP (s:=(rA l i).s) hI.1 hI.2.1 hI.2.2.1) ?_
     repeat refine o5 ?_
     refine ⟨i+1,(by omega),(by (simp only [SrcE.len,Qy6,Qy4,Qy3,Qy5];omega)),?_⟩
     repeat refine o6 ?_
     trivial
 ·skip
  have c1:=h1
  (simp only [bsX] at c1)
  have hi:i=l.length:=by have:=hx1.1;omega
  subst hi
  repeat refine o17 ?_
  trivial
theorem WL {l:List RawS} {m:Nat} (hl:∀ x∈l,x.inn) (hn:(l.length:Int)≤9223372036854775807) (hm:m≤100):Cf Tryz.prog 25 [] [QR l,.i (m:Int)] [] (Wz (WK l m)):=by
 refine Cf.resAv ?_ (Wu hl hn hm);rw [← Q7 l m];refine QbH fun i hi j hj=>?_;rw [← YZ l m i (by rw [← Q7 l m];exact hi) j hj];exact Vk j hj
end
section
open Go.RowKit Go.Lib
abbrev QnU (s:StgS):List EV:=[.b true,Wz s.rest,.s s.c.k,.i s.c.port,Qo s.c.ps,.s s.at_,.i s.err]
abbrev Qb9 (s:StgS):EV:=.agg (QnU s)
abbrev QuM:List EV:=[.b false,.nil,.s [],.i 0,.nil,.s [],.i 0]
theorem XD {L:List SetS} (hl:L.length≤1000000):Cf Tryz.prog 79 [] [Wz L] [] (Wz L):=by
 refine Qs {} Tryz.func79 Tryz.ntmps79 ?_;refine fun g1 hg1=>?_;refine ⟨fun h2=>?_,fun h2=>?_⟩
 ·skip
  have c2:=h2
  repeat refine o72 ?_
  trivial
 ·skip
  have c2:=h2
  repeat refine o23 ?_
  trivial
theorem QnV {a:List UInt8} {e:Int} (h:Qb0 a) (he:0≤e∧e≤14):¬ (((¬ a=[]∧¬ True)∨e < 0)∨14 < e):=by
 rintro ((⟨_,q⟩ | q) | q)
 ·exact q trivial
 ·omega
 ·omega
theorem VN {s:StgS} (h:StgOk s):Cf Tryz.prog 36 [] [Qb9 s] [] (.i 0):=by
 have hl:=h.len;have he:=h.err;refine Qs {} Tryz.func36 Tryz.ntmps36 ?_;refine knF ?_;refine clX (Qh h.c) ?_
 repeat refine o1 ?_
 refine knF ?_;refine ⟨fun h3=>?_,fun h3=>?_⟩
 ·skip
  have c3:=h3
  (simp only [bsX] at c3)
  exact absurd c3 (by omega)
 ·skip
  have c3:=h3
  (simp only [bsX] at c3)
  refine ⟨Nat,fun i=>⟨[(1,.own 1001 0),(54,Wz s.rest),(55,.i (s.rest.length:Int)),(56,.i (i:Int))],[(1001,.box (QnU s) 66)]⟩,fun i=>i≤s.rest.length,fun i=>s.rest.length - i,0,Qy9 _,?_,fun i hx1=>?_⟩
  ·skip
   repeat refine o1 ?_
   trivial
  refine ⟨fun h4=>?_,fun h4=>?_⟩
  ·skip
   have c4:=h4
   (simp only [bsX] at c4)
   have hi:i < s.rest.length:=by omega
   repeat refine o4 ?_
   refine clX (QS (h.rest _ (VI (d:=Qm) hi))) ?_
   repeat refine o0 ?_
   refine knF ?_
   repeat refine o3 ?_
   refine Ql (i+1) ?_
   repeat refine o1 ?_
   trivial
  ·skip
   have c4:=h4
   (simp only [bsX] at c4)
   repeat refine o118 ?_
   refine gx (fun hc=>(QaJ (h.at_.resolve_left (by simpa using hc)))) (fun hk=>⟨hk,?_⟩)
   repeat refine o119 ?_
   refine ⟨fun h6=>?_,fun h6=>?_⟩
   ·skip
    (simp only [Int.reduceToNat,UInt8.reduceOfNat] at h6)
    have c6:=h6
    (simp only [bsX] at c6)
    exact absurd c6 (QnV h.at_ he)
   ·skip
    (simp only [Int.reduceToNat,UInt8.reduceOfNat] at h6)
    have c6:=h6
    (simp only [bsX] at c6)
    repeat refine o0 ?_
    trivial
theorem QdW {c:ConfS} {s:List UInt8} {L:List SetS} (h:ConfOk c) (hp:Wm s=(L,0,0)):Cf Tryz.prog 34 [] [Qp c,.s s] [] (.tup [Qb9 ⟨L,c,[],0⟩,.i 0,.i 0]):=by
 have hb:=QdP (s:=s);rw [hp] at hb;refine Qs {} Tryz.func34 Tryz.ntmps34 ?_;refine clX (Qh h) ?_
 repeat refine o1 ?_
 refine knF ?_;refine clX hb ?_
 repeat refine o0 ?_
 refine knF ?_;refine clX (Xl h) ?_
 repeat refine o1 ?_
 trivial
theorem QjK {A:Type}:∀ {L:List A},0 < L.length→∃ x r,L=x::r
 | [],h=>absurd h (Nat.lt_irrefl _)
 | x::r,_=>⟨x,r,rfl⟩
theorem Qmi {x:SetS} {r:List SetS} {n:Nat}:∀ i,i < n → ∀ j,j < 5→stF (x::r) (1+i) j=stF r i j:=fun i _ j _=>by
 rw [Nat.add_comm 1 i];rfl
end
section
open Go.RowKit
abbrev rowP (ps:List PeerS):EB:=.rz ps.length 5 (fun u v=>Qk (ps.getD u Qa) v) 33 0
abbrev aggP (c:ConfS):EV:=.agg [.s c.k,.i c.port,.osl 60 c.ps.length]
theorem cf_One1NWO {c:ConfS} {at_:List UInt8} {t:List UInt8} (hk:Qv c.ps t = -1) (h:ConfOk c) (hs:Qx ⟨1,t,0,[]⟩) (ho:ConfOk ⟨t,c.port,c.ps⟩):Cf Tryz.prog 26 [] [Qp c,.s at_,Z9 ⟨1,t,0,[]⟩] [(60,rowP (⟨t,c.port,c.ps⟩:ConfS).ps)] (.tup [aggP (⟨t,c.port,c.ps⟩:ConfS),.s [],.i 0]):=by
 refine Qs {} Tryz.func26 Tryz.ntmps26 ?_;refine clX (Qh h) ?_
 repeat refine o1 ?_
 refine knF ?_;refine clX (QS hs) ?_
 repeat refine o0 ?_
 refine knF ?_;refine clX (QK (c:=c) (hl3 h) (h86 h)) ?_
 repeat refine o1 ?_
 refine clX (QqH (c:=c) (at_:=at_) h.pl hk) ?_
 repeat refine o2 ?_
 refine knF ?_;refine clX (QK (c:=⟨t,c.port,c.ps⟩) (hl3 ho) (h86 ho)) ?_
 repeat refine o2 ?_
 trivial
theorem cf_One2WO {c:ConfS} {at_:List UInt8} {n:Int} (h:ConfOk c) (hs:Qx ⟨2,[],n,[]⟩) (ho:ConfOk ⟨c.k,n,c.ps⟩):Cf Tryz.prog 26 [] [Qp c,.s at_,Z9 ⟨2,[],n,[]⟩] [(60,rowP (⟨c.k,n,c.ps⟩:ConfS).ps)] (.tup [aggP (⟨c.k,n,c.ps⟩:ConfS),.s [],.i 0]):=by
 refine Qs {} Tryz.func26 Tryz.ntmps26 ?_;refine clX (Qh h) ?_
 repeat refine o1 ?_
 refine knF ?_;refine clX (QS hs) ?_
 repeat refine o0 ?_
 refine knF ?_;refine clX (QK (c:=c) (hl3 h) (h86 h)) ?_
 repeat refine o1 ?_
 refine clX (QtA (c:=c) (at_:=at_) (n:=n)) ?_
 repeat refine o2 ?_
 refine knF ?_;refine clX (QK (c:=⟨c.k,n,c.ps⟩) (hl3 ho) (h86 ho)) ?_
 repeat refine o2 ?_
 trivial
theorem cf_One3WO {c:ConfS} {at_:List UInt8} (h:ConfOk c) (hs:Qx ⟨3,[],0,[]⟩) (ho:ConfOk ⟨c.k,c.port,[]⟩):Cf Tryz.prog 26 [] [Qp c,.s at_,Z9 ⟨3,[],0,[]⟩] [(60,rowP (⟨c.k,c.port,[]⟩:ConfS).ps)] (.tup [aggP (⟨c.k,c.port,[]⟩:ConfS),.s [],.i 0]):=by
 refine Qs {} Tryz.func26 Tryz.ntmps26 ?_;refine clX (Qh h) ?_
 repeat refine o1 ?_
 refine knF ?_;refine clX (QS hs) ?_
 repeat refine o0 ?_
 refine knF ?_;refine clX (QK (c:=c) (hl3 h) (h86 h)) ?_
 repeat refine o1 ?_
 refine clX (QtB (c:=c) (at_:=at_)) ?_
 repeat refine o2 ?_
 refine knF ?_;refine clX (QK (c:=⟨c.k,c.port,[]⟩) (hl3 ho) (h86 ho)) ?_
 repeat refine o2 ?_
 trivial
theorem cf_One4YWO {c:ConfS} {at_:List UInt8} {t:List UInt8} {i:Nat} (hk:Qv c.ps t=(i:Int)) (hn:t≠c.k) (h:ConfOk c) (hs:Qx ⟨4,t,0,[]⟩) (ho:ConfOk c):Cf Tryz.prog 26 [] [Qp c,.s at_,Z9 ⟨4,t,0,[]⟩] [(60,rowP (c:ConfS).ps)] (.tup [aggP (c:ConfS),.s t,.i 0]):=by
 refine Qs {} Tryz.func26 Tryz.ntmps26 ?_;refine clX (Qh h) ?_
 repeat refine o1 ?_
 refine knF ?_;refine clX (QS hs) ?_
 repeat refine o0 ?_
 refine knF ?_;refine clX (QK (c:=c) (hl3 h) (h86 h)) ?_
 repeat refine o1 ?_
 refine clX (QqK (c:=c) (at_:=at_) h.pl hk hn) ?_
 repeat refine o2 ?_
 refine knF ?_;refine clX (QK (c:=c) (hl3 ho) (h86 ho)) ?_
 repeat refine o2 ?_
 trivial
theorem cf_One4NWO {c:ConfS} {at_:List UInt8} {t:List UInt8} (hl:c.ps.length < 6) (hk:Qv c.ps t = -1) (hn:t≠c.k) (h:ConfOk c) (hs:Qx ⟨4,t,0,[]⟩) (ho:ConfOk (Qer c t)):Cf Tryz.prog 26 [] [Qp c,.s at_,Z9 ⟨4,t,0,[]⟩] [(60,rowP ((Qer c t):ConfS).ps)] (.tup [aggP ((Qer c t):ConfS),.s t,.i 0]):=by
 refine Qs {} Tryz.func26 Tryz.ntmps26 ?_;refine clX (Qh h) ?_
 repeat refine o1 ?_
 refine knF ?_;refine clX (QS hs) ?_
 repeat refine o0 ?_
 refine knF ?_;refine clX (QK (c:=c) (hl3 h) (h86 h)) ?_
 repeat refine o1 ?_
 refine clX (QqM (c:=c) (at_:=at_) hl hk hn (WZ.1 h.inc)) ?_
 repeat refine o2 ?_
 refine knF ?_;refine clX (QK (c:=(Qer c t)) (hl3 ho) (h86 ho)) ?_
 repeat refine o2 ?_
 trivial
theorem cf_One6WO {c:ConfS} {at_:List UInt8} {t:List UInt8} {i:Nat} (ha:at_≠[]) (hi:i < c.ps.length) (hk:Qv c.ps at_=(i:Int)) (h:ConfOk c) (hs:Qx ⟨6,t,0,[]⟩) (ho:ConfOk (Qac c i ⟨(c.ps.getD i Qa).k,t,(c.ps.getD i Qa).e,(c.ps.getD i Qa).a,(c.ps.getD i Qa).ns⟩)):Cf Tryz.prog 26 [] [Qp c,.s at_,Z9 ⟨6,t,0,[]⟩] [(60,rowP ((Qac c i ⟨(c.ps.getD i Qa).k,t,(c.ps.getD i Qa).e,(c.ps.getD i Qa).a,(c.ps.getD i Qa).ns⟩):ConfS).ps)] (.tup [aggP ((Qac c i ⟨(c.ps.getD i Qa).k,t,(c.ps.getD i Qa).e,(c.ps.getD i Qa).a,(c.ps.getD i Qa).ns⟩):ConfS),.s at_,.i 0]):=by
 refine Qs {} Tryz.func26 Tryz.ntmps26 ?_;refine clX (Qh h) ?_
 repeat refine o1 ?_
 refine knF ?_;refine clX (QS hs) ?_
 repeat refine o0 ?_
 refine knF ?_;refine clX (QK (c:=c) (hl3 h) (h86 h)) ?_
 repeat refine o1 ?_
 refine clX (QtC (c:=c) (at_:=at_) (t:=t) h.pl ha hi hk) ?_
 repeat refine o2 ?_
 refine knF ?_;refine clX (QK (c:=(Qac c i ⟨(c.ps.getD i Qa).k,t,(c.ps.getD i Qa).e,(c.ps.getD i Qa).a,(c.ps.getD i Qa).ns⟩)) (hl3 ho) (h86 ho)) ?_
 repeat refine o2 ?_
 trivial
theorem cf_One7WO {c:ConfS} {at_:List UInt8} {t:List UInt8} {i:Nat} (ha:at_≠[]) (hi:i < c.ps.length) (hk:Qv c.ps at_=(i:Int)) (h:ConfOk c) (hs:Qx ⟨7,t,0,[]⟩) (ho:ConfOk (Qac c i ⟨(c.ps.getD i Qa).k,(c.ps.getD i Qa).s,t,(c.ps.getD i Qa).a,(c.ps.getD i Qa).ns⟩)):Cf Tryz.prog 26 [] [Qp c,.s at_,Z9 ⟨7,t,0,[]⟩] [(60,rowP ((Qac c i ⟨(c.ps.getD i Qa).k,(c.ps.getD i Qa).s,t,(c.ps.getD i Qa).a,(c.ps.getD i Qa).ns⟩):ConfS).ps)] (.tup [aggP ((Qac c i ⟨(c.ps.getD i Qa).k,(c.ps.getD i Qa).s,t,(c.ps.getD i Qa).a,(c.ps.getD i Qa).ns⟩):ConfS),.s at_,.i 0]):=by
 refine Qs {} Tryz.func26 Tryz.ntmps26 ?_;refine clX (Qh h) ?_
 repeat refine o1 ?_
 refine knF ?_;refine clX (QS hs) ?_
 repeat refine o0 ?_
 refine knF ?_;refine clX (QK (c:=c) (hl3 h) (h86 h)) ?_
 repeat refine o1 ?_
 refine clX (QtD (c:=c) (at_:=at_) (t:=t) h.pl ha hi hk) ?_
 repeat refine o2 ?_
 refine knF ?_;refine clX (QK (c:=(Qac c i ⟨(c.ps.getD i Qa).k,(c.ps.getD i Qa).s,t,(c.ps.getD i Qa).a,(c.ps.getD i Qa).ns⟩)) (hl3 ho) (h86 ho)) ?_
 repeat refine o2 ?_
 trivial
theorem cf_One8WO {c:ConfS} {at_:List UInt8} {n:Int} {i:Nat} (ha:at_≠[]) (hi:i < c.ps.length) (hk:Qv c.ps at_=(i:Int)) (h:ConfOk c) (hs:Qx ⟨8,[],n,[]⟩) (ho:ConfOk (Qac c i ⟨(c.ps.getD i Qa).k,(c.ps.getD i Qa).s,(c.ps.getD i Qa).e,n,(c.ps.getD i Qa).ns⟩)):Cf Tryz.prog 26 [] [Qp c,.s at_,Z9 ⟨8,[],n,[]⟩] [(60,rowP ((Qac c i ⟨(c.ps.getD i Qa).k,(c.ps.getD i Qa).s,(c.ps.getD i Qa).e,n,(c.ps.getD i Qa).ns⟩):ConfS).ps)] (.tup [aggP ((Qac c i ⟨(c.ps.getD i Qa).k,(c.ps.getD i Qa).s,(c.ps.getD i Qa).e,n,(c.ps.getD i Qa).ns⟩):ConfS),.s at_,.i 0]):=by
 refine Qs {} Tryz.func26 Tryz.ntmps26 ?_;refine clX (Qh h) ?_
 repeat refine o1 ?_
 refine knF ?_;refine clX (QS hs) ?_
 repeat refine o0 ?_
 refine knF ?_;refine clX (QK (c:=c) (hl3 h) (h86 h)) ?_
 repeat refine o1 ?_
 refine clX (QtE (c:=c) (at_:=at_) (n:=n) h.pl ha hi hk) ?_
 repeat refine o2 ?_
 refine knF ?_;refine clX (QK (c:=(Qac c i ⟨(c.ps.getD i Qa).k,(c.ps.getD i Qa).s,(c.ps.getD i Qa).e,n,(c.ps.getD i Qa).ns⟩)) (hl3 ho) (h86 ho)) ?_
 repeat refine o2 ?_
 trivial
theorem cf_One9WO {c:ConfS} {at_:List UInt8} {i:Nat} (ha:at_≠[]) (hi:i < c.ps.length) (hk:Qv c.ps at_=(i:Int)) (h:ConfOk c) (hs:Qx ⟨9,[],0,[]⟩) (ho:ConfOk (Qac c i ⟨(c.ps.getD i Qa).k,(c.ps.getD i Qa).s,(c.ps.getD i Qa).e,(c.ps.getD i Qa).a,[]⟩)):Cf Tryz.prog 26 [] [Qp c,.s at_,Z9 ⟨9,[],0,[]⟩] [(60,rowP ((Qac c i ⟨(c.ps.getD i Qa).k,(c.ps.getD i Qa).s,(c.ps.getD i Qa).e,(c.ps.getD i Qa).a,[]⟩):ConfS).ps)] (.tup [aggP ((Qac c i ⟨(c.ps.getD i Qa).k,(c.ps.getD i Qa).s,(c.ps.getD i Qa).e,(c.ps.getD i Qa).a,[]⟩):ConfS),.s at_,.i 0]):=by
 refine Qs {} Tryz.func26 Tryz.ntmps26 ?_;refine clX (Qh h) ?_
 repeat refine o1 ?_
 refine knF ?_;refine clX (QS hs) ?_
 repeat refine o0 ?_
 refine knF ?_;refine clX (QK (c:=c) (hl3 h) (h86 h)) ?_
 repeat refine o1 ?_
 refine clX (QtF (c:=c) (at_:=at_) h.pl ha hi hk) ?_
 repeat refine o2 ?_
 refine knF ?_;refine clX (QK (c:=(Qac c i ⟨(c.ps.getD i Qa).k,(c.ps.getD i Qa).s,(c.ps.getD i Qa).e,(c.ps.getD i Qa).a,[]⟩)) (hl3 ho) (h86 ho)) ?_
 repeat refine o2 ?_
 trivial
theorem cf_One5WO {c:ConfS} {at_:List UInt8} {i:Nat} (ha:at_≠[]) (hi:i < c.ps.length) (hk:Qv c.ps at_=(i:Int)) (h:ConfOk c) (hs:Qx ⟨5,[],0,[]⟩) (ho:ConfOk ⟨c.k,c.port,Q8 at_ c.ps⟩):Cf Tryz.prog 26 [] [Qp c,.s at_,Z9 ⟨5,[],0,[]⟩] [(60,rowP (⟨c.k,c.port,Q8 at_ c.ps⟩:ConfS).ps)] (.tup [aggP (⟨c.k,c.port,Q8 at_ c.ps⟩:ConfS),.s [],.i 0]):=by
 refine Qs {} Tryz.func26 Tryz.ntmps26 ?_;refine clX (Qh h) ?_
 repeat refine o1 ?_
 refine knF ?_;refine clX (QS hs) ?_
 repeat refine o0 ?_
 refine knF ?_;refine clX (QK (c:=c) (hl3 h) (h86 h)) ?_
 repeat refine o1 ?_
 refine clX (Qt3 (c:=c) h.pl ha hi hk) ?_
 repeat refine o2 ?_
 refine knF ?_;refine clX (QK (c:=⟨c.k,c.port,Q8 at_ c.ps⟩) (hl3 ho) (h86 ho)) ?_
 repeat refine o2 ?_
 trivial
end
section
open Go.RowKit
theorem cf_One10K0WO {c:ConfS} {at_:List UInt8} {n:List Bool} (ha:at_≠[]) (hi0:0 < c.ps.length) (hk:Qv c.ps at_=((0:Nat):Int)) (hf:¬ Wn c 0 n) (h:ConfOk c) (hs:Qx ⟨10,[],0,n⟩) (ho:ConfOk ⟨c.k,c.port,Qq c.ps 0 n⟩):Cf Tryz.prog 26 [] [Qp c,.s at_,Z9 ⟨10,[],0,n⟩] [(60,rowP (⟨c.k,c.port,Qq c.ps 0 n⟩:ConfS).ps)] (.tup [aggP (⟨c.k,c.port,Qq c.ps 0 n⟩:ConfS),.s at_,.i 0]):=by
 have hpl:=h.pl;have hpo:=Yt h;have hcQ:WC c.ps 0 n=0:=if_neg hf;have hmQ:Qn c.ps 0 n=Qq c.ps 0 n:=if_neg hf;have hml:(Qq c.ps 0 n).length=c.ps.length:=by rw [← hmQ];exact X0
 have hon:=Qgt (c:=c) (at_:=at_) (n:=n) hpo ha hi0 hk hs.2;rw [hcQ] at hon;rw [hmQ] at hon;refine Qs {cu:=[8,9]} Tryz.func26 Tryz.ntmps26 ?_;refine clX (Qh h) ?_
 repeat refine o1 ?_
 refine knF ?_;refine clX (QS hs) ?_
 repeat refine o0 ?_
 refine knF ?_;refine clX (Zf (c:=c) h.pl (h86 h)) ?_
 repeat refine o1 ?_
 refine ⟨⟨[(1,.s at_),(5,.own 1005 0),(6,.own 1006 0),(11,.own 1011 0)],[(1005,.box [.i 10,.s [],.i 0,.u32 (adr n),.i (n.length:Int)] 48),(1006,.box [.s [],.i 0,.nil] 25),(1011,bK c 61 c.ps.length),(61,rK c.ps.length (c.ps) nmK),(7000,dK (c.ps) 0),(7001,dK (c.ps) 1),(7002,dK (c.ps) 2),(7003,dK (c.ps) 3),(7004,dK (c.ps) 4),(7005,dK (c.ps) 5)]⟩,?_,?_⟩
 ·skip
  repeat refine o2 ?_
  trivial
 refine clX hon ?_
 repeat refine o2 ?_
 refine ⟨⟨[(12,.s at_),(13,.i 0),(6,.own 1006 0),(11,.own 1011 0)],[(1006,.box [.s [],.i 0,.nil] 25),(1011,bK c 61 c.ps.length),(61,rK c.ps.length (Qq c.ps 0 n) [7100,7001,7002,7003,7004,7005]),(7100,dK (Qq c.ps 0 n) 0),(7001,dK (Qq c.ps 0 n) 1),(7002,dK (Qq c.ps 0 n) 2),(7003,dK (Qq c.ps 0 n) 3),(7004,dK (Qq c.ps 0 n) 4),(7005,dK (Qq c.ps 0 n) 5)]⟩,?_,?_⟩
 ·skip
  repeat refine o2 ?_
  trivial
 refine knF ?_;refine clX (QK (c:=⟨c.k,c.port,Qq c.ps 0 n⟩) (hl3 ho) (h86 ho)) ?_
 repeat (refine Ob.mk ?_ ?_;focus (first | (exact QtI hpl) | (exact Qxw hpl) | (exact hml.symm) | (exact fun _ _ _ _=>rfl) | (exact Qzb _) | omega))
 trivial
end
section
open Go.RowKit
theorem cf_One10K1WO {c:ConfS} {at_:List UInt8} {n:List Bool} (ha:at_≠[]) (hi0:1 < c.ps.length) (hk:Qv c.ps at_=((1:Nat):Int)) (hf:¬ Wn c 1 n) (h:ConfOk c) (hs:Qx ⟨10,[],0,n⟩) (ho:ConfOk ⟨c.k,c.port,Qq c.ps 1 n⟩):Cf Tryz.prog 26 [] [Qp c,.s at_,Z9 ⟨10,[],0,n⟩] [(60,rowP (⟨c.k,c.port,Qq c.ps 1 n⟩:ConfS).ps)] (.tup [aggP (⟨c.k,c.port,Qq c.ps 1 n⟩:ConfS),.s at_,.i 0]):=by
 have hpl:=h.pl;have hpo:=Yt h;have hcQ:WC c.ps 1 n=0:=if_neg hf;have hmQ:Qn c.ps 1 n=Qq c.ps 1 n:=if_neg hf;have hml:(Qq c.ps 1 n).length=c.ps.length:=by rw [← hmQ];exact X0
 have hon:=Qgu (c:=c) (at_:=at_) (n:=n) hpo ha hi0 hk hs.2;rw [hcQ] at hon;rw [hmQ] at hon;refine Qs {cu:=[8,9]} Tryz.func26 Tryz.ntmps26 ?_;refine clX (Qh h) ?_
 repeat refine o1 ?_
 refine knF ?_;refine clX (QS hs) ?_
 repeat refine o0 ?_
 refine knF ?_;refine clX (Zf (c:=c) h.pl (h86 h)) ?_
 repeat refine o1 ?_
 refine ⟨⟨[(1,.s at_),(5,.own 1005 0),(6,.own 1006 0),(11,.own 1011 0)],[(1005,.box [.i 10,.s [],.i 0,.u32 (adr n),.i (n.length:Int)] 48),(1006,.box [.s [],.i 0,.nil] 25),(1011,bK c 61 c.ps.length),(61,rK c.ps.length (c.ps) nmK),(7000,dK (c.ps) 0),(7001,dK (c.ps) 1),(7002,dK (c.ps) 2),(7003,dK (c.ps) 3),(7004,dK (c.ps) 4),(7005,dK (c.ps) 5)]⟩,?_,?_⟩
 ·skip
  repeat refine o2 ?_
  trivial
 refine clX hon ?_
 repeat refine o2 ?_
 refine ⟨⟨[(12,.s at_),(13,.i 0),(6,.own 1006 0),(11,.own 1011 0)],[(1006,.box [.s [],.i 0,.nil] 25),(1011,bK c 61 c.ps.length),(61,rK c.ps.length (Qq c.ps 1 n) [7000,7100,7002,7003,7004,7005]),(7000,dK (Qq c.ps 1 n) 0),(7100,dK (Qq c.ps 1 n) 1),(7002,dK (Qq c.ps 1 n) 2),(7003,dK (Qq c.ps 1 n) 3),(7004,dK (Qq c.ps 1 n) 4),(7005,dK (Qq c.ps 1 n) 5)]⟩,?_,?_⟩
 ·skip
  repeat refine o2 ?_
  trivial
 refine knF ?_;refine clX (QK (c:=⟨c.k,c.port,Qq c.ps 1 n⟩) (hl3 ho) (h86 ho)) ?_
 repeat (refine Ob.mk ?_ ?_;focus (first | (exact QtI hpl) | (exact Qxw hpl) | (exact hml.symm) | (exact fun _ _ _ _=>rfl) | (exact Qzb _) | omega))
 trivial
end
section
open Go.RowKit
theorem cf_One10K2WO {c:ConfS} {at_:List UInt8} {n:List Bool} (ha:at_≠[]) (hi0:2 < c.ps.length) (hk:Qv c.ps at_=((2:Nat):Int)) (hf:¬ Wn c 2 n) (h:ConfOk c) (hs:Qx ⟨10,[],0,n⟩) (ho:ConfOk ⟨c.k,c.port,Qq c.ps 2 n⟩):Cf Tryz.prog 26 [] [Qp c,.s at_,Z9 ⟨10,[],0,n⟩] [(60,rowP (⟨c.k,c.port,Qq c.ps 2 n⟩:ConfS).ps)] (.tup [aggP (⟨c.k,c.port,Qq c.ps 2 n⟩:ConfS),.s at_,.i 0]):=by
 have hpl:=h.pl;have hpo:=Yt h;have hcQ:WC c.ps 2 n=0:=if_neg hf;have hmQ:Qn c.ps 2 n=Qq c.ps 2 n:=if_neg hf;have hml:(Qq c.ps 2 n).length=c.ps.length:=by rw [← hmQ];exact X0
 have hon:=Qgv (c:=c) (at_:=at_) (n:=n) hpo ha hi0 hk hs.2;rw [hcQ] at hon;rw [hmQ] at hon;refine Qs {cu:=[8,9]} Tryz.func26 Tryz.ntmps26 ?_;refine clX (Qh h) ?_
 repeat refine o1 ?_
 refine knF ?_;refine clX (QS hs) ?_
 repeat refine o0 ?_
 refine knF ?_;refine clX (Zf (c:=c) h.pl (h86 h)) ?_
 repeat refine o1 ?_
 refine ⟨⟨[(1,.s at_),(5,.own 1005 0),(6,.own 1006 0),(11,.own 1011 0)],[(1005,.box [.i 10,.s [],.i 0,.u32 (adr n),.i (n.length:Int)] 48),(1006,.box [.s [],.i 0,.nil] 25),(1011,bK c 61 c.ps.length),(61,rK c.ps.length (c.ps) nmK),(7000,dK (c.ps) 0),(7001,dK (c.ps) 1),(7002,dK (c.ps) 2),(7003,dK (c.ps) 3),(7004,dK (c.ps) 4),(7005,dK (c.ps) 5)]⟩,?_,?_⟩
 ·skip
  repeat refine o2 ?_
  trivial
 refine clX hon ?_
 repeat refine o2 ?_
 refine ⟨⟨[(12,.s at_),(13,.i 0),(6,.own 1006 0),(11,.own 1011 0)],[(1006,.box [.s [],.i 0,.nil] 25),(1011,bK c 61 c.ps.length),(61,rK c.ps.length (Qq c.ps 2 n) [7000,7001,7100,7003,7004,7005]),(7000,dK (Qq c.ps 2 n) 0),(7001,dK (Qq c.ps 2 n) 1),(7100,dK (Qq c.ps 2 n) 2),(7003,dK (Qq c.ps 2 n) 3),(7004,dK (Qq c.ps 2 n) 4),(7005,dK (Qq c.ps 2 n) 5)]⟩,?_,?_⟩
 ·skip
  repeat refine o2 ?_
  trivial
 refine knF ?_;refine clX (QK (c:=⟨c.k,c.port,Qq c.ps 2 n⟩) (hl3 ho) (h86 ho)) ?_
 repeat (refine Ob.mk ?_ ?_;focus (first | (exact QtI hpl) | (exact Qxw hpl) | (exact hml.symm) | (exact fun _ _ _ _=>rfl) | (exact Qzb _) | omega))
 trivial
end
section
open Go.RowKit
theorem cf_One10K3WO {c:ConfS} {at_:List UInt8} {n:List Bool} (ha:at_≠[]) (hi0:3 < c.ps.length) (hk:Qv c.ps at_=((3:Nat):Int)) (hf:¬ Wn c 3 n) (h:ConfOk c) (hs:Qx ⟨10,[],0,n⟩) (ho:ConfOk ⟨c.k,c.port,Qq c.ps 3 n⟩):Cf Tryz.prog 26 [] [Qp c,.s at_,Z9 ⟨10,[],0,n⟩] [(60,rowP (⟨c.k,c.port,Qq c.ps 3 n⟩:ConfS).ps)] (.tup [aggP (⟨c.k,c.port,Qq c.ps 3 n⟩:ConfS),.s at_,.i 0]):=by
 have hpl:=h.pl;have hpo:=Yt h;have hcQ:WC c.ps 3 n=0:=if_neg hf;have hmQ:Qn c.ps 3 n=Qq c.ps 3 n:=if_neg hf;have hml:(Qq c.ps 3 n).length=c.ps.length:=by rw [← hmQ];exact X0
 have hon:=Qgw (c:=c) (at_:=at_) (n:=n) hpo ha hi0 hk hs.2;rw [hcQ] at hon;rw [hmQ] at hon;refine Qs {cu:=[8,9]} Tryz.func26 Tryz.ntmps26 ?_;refine clX (Qh h) ?_
 repeat refine o1 ?_
 refine knF ?_;refine clX (QS hs) ?_
 repeat refine o0 ?_
 refine knF ?_;refine clX (Zf (c:=c) h.pl (h86 h)) ?_
 repeat refine o1 ?_
 refine ⟨⟨[(1,.s at_),(5,.own 1005 0),(6,.own 1006 0),(11,.own 1011 0)],[(1005,.box [.i 10,.s [],.i 0,.u32 (adr n),.i (n.length:Int)] 48),(1006,.box [.s [],.i 0,.nil] 25),(1011,bK c 61 c.ps.length),(61,rK c.ps.length (c.ps) nmK),(7000,dK (c.ps) 0),(7001,dK (c.ps) 1),(7002,dK (c.ps) 2),(7003,dK (c.ps) 3),(7004,dK (c.ps) 4),(7005,dK (c.ps) 5)]⟩,?_,?_⟩
 ·skip
  repeat refine o2 ?_
  trivial
 refine clX hon ?_
 repeat refine o2 ?_
 refine ⟨⟨[(12,.s at_),(13,.i 0),(6,.own 1006 0),(11,.own 1011 0)],[(1006,.box [.s [],.i 0,.nil] 25),(1011,bK c 61 c.ps.length),(61,rK c.ps.length (Qq c.ps 3 n) [7000,7001,7002,7100,7004,7005]),(7000,dK (Qq c.ps 3 n) 0),(7001,dK (Qq c.ps 3 n) 1),(7002,dK (Qq c.ps 3 n) 2),(7100,dK (Qq c.ps 3 n) 3),(7004,dK (Qq c.ps 3 n) 4),(7005,dK (Qq c.ps 3 n) 5)]⟩,?_,?_⟩
 ·skip
  repeat refine o2 ?_
  trivial
 refine knF ?_;refine clX (QK (c:=⟨c.k,c.port,Qq c.ps 3 n⟩) (hl3 ho) (h86 ho)) ?_
 repeat (refine Ob.mk ?_ ?_;focus (first | (exact QtI hpl) | (exact Qxw hpl) | (exact hml.symm) | (exact fun _ _ _ _=>rfl) | (exact Qzb _) | omega))
 trivial
end
section
open Go.RowKit
theorem cf_One10K4WO {c:ConfS} {at_:List UInt8} {n:List Bool} (ha:at_≠[]) (hi0:4 < c.ps.length) (hk:Qv c.ps at_=((4:Nat):Int)) (hf:¬ Wn c 4 n) (h:ConfOk c) (hs:Qx ⟨10,[],0,n⟩) (ho:ConfOk ⟨c.k,c.port,Qq c.ps 4 n⟩):Cf Tryz.prog 26 [] [Qp c,.s at_,Z9 ⟨10,[],0,n⟩] [(60,rowP (⟨c.k,c.port,Qq c.ps 4 n⟩:ConfS).ps)] (.tup [aggP (⟨c.k,c.port,Qq c.ps 4 n⟩:ConfS),.s at_,.i 0]):=by
 have hpl:=h.pl;have hpo:=Yt h;have hcQ:WC c.ps 4 n=0:=if_neg hf;have hmQ:Qn c.ps 4 n=Qq c.ps 4 n:=if_neg hf;have hml:(Qq c.ps 4 n).length=c.ps.length:=by rw [← hmQ];exact X0
 have hon:=Qgx (c:=c) (at_:=at_) (n:=n) hpo ha hi0 hk hs.2;rw [hcQ] at hon;rw [hmQ] at hon;refine Qs {cu:=[8,9]} Tryz.func26 Tryz.ntmps26 ?_;refine clX (Qh h) ?_
 repeat refine o1 ?_
 refine knF ?_;refine clX (QS hs) ?_
 repeat refine o0 ?_
 refine knF ?_;refine clX (Zf (c:=c) h.pl (h86 h)) ?_
 repeat refine o1 ?_
 refine ⟨⟨[(1,.s at_),(5,.own 1005 0),(6,.own 1006 0),(11,.own 1011 0)],[(1005,.box [.i 10,.s [],.i 0,.u32 (adr n),.i (n.length:Int)] 48),(1006,.box [.s [],.i 0,.nil] 25),(1011,bK c 61 c.ps.length),(61,rK c.ps.length (c.ps) nmK),(7000,dK (c.ps) 0),(7001,dK (c.ps) 1),(7002,dK (c.ps) 2),(7003,dK (c.ps) 3),(7004,dK (c.ps) 4),(7005,dK (c.ps) 5)]⟩,?_,?_⟩
 ·skip
  repeat refine o2 ?_
  trivial
 refine clX hon ?_
 repeat refine o2 ?_
 refine ⟨⟨[(12,.s at_),(13,.i 0),(6,.own 1006 0),(11,.own 1011 0)],[(1006,.box [.s [],.i 0,.nil] 25),(1011,bK c 61 c.ps.length),(61,rK c.ps.length (Qq c.ps 4 n) [7000,7001,7002,7003,7100,7005]),(7000,dK (Qq c.ps 4 n) 0),(7001,dK (Qq c.ps 4 n) 1),(7002,dK (Qq c.ps 4 n) 2),(7003,dK (Qq c.ps 4 n) 3),(7100,dK (Qq c.ps 4 n) 4),(7005,dK (Qq c.ps 4 n) 5)]⟩,?_,?_⟩
 ·skip
  repeat refine o2 ?_
  trivial
 refine knF ?_;refine clX (QK (c:=⟨c.k,c.port,Qq c.ps 4 n⟩) (hl3 ho) (h86 ho)) ?_
 repeat (refine Ob.mk ?_ ?_;focus (first | (exact QtI hpl) | (exact Qxw hpl) | (exact hml.symm) | (exact fun _ _ _ _=>rfl) | (exact Qzb _) | omega))
 trivial
end
section
open Go.RowKit
theorem cf_One10K5WO {c:ConfS} {at_:List UInt8} {n:List Bool} (ha:at_≠[]) (hi0:5 < c.ps.length) (hk:Qv c.ps at_=((5:Nat):Int)) (hf:¬ Wn c 5 n) (h:ConfOk c) (hs:Qx ⟨10,[],0,n⟩) (ho:ConfOk ⟨c.k,c.port,Qq c.ps 5 n⟩):Cf Tryz.prog 26 [] [Qp c,.s at_,Z9 ⟨10,[],0,n⟩] [(60,rowP (⟨c.k,c.port,Qq c.ps 5 n⟩:ConfS).ps)] (.tup [aggP (⟨c.k,c.port,Qq c.ps 5 n⟩:ConfS),.s at_,.i 0]):=by
 have hpl:=h.pl;have hpo:=Yt h;have hcQ:WC c.ps 5 n=0:=if_neg hf;have hmQ:Qn c.ps 5 n=Qq c.ps 5 n:=if_neg hf;have hml:(Qq c.ps 5 n).length=c.ps.length:=by rw [← hmQ];exact X0
 have hon:=Qgy (c:=c) (at_:=at_) (n:=n) hpo ha hi0 hk hs.2;rw [hcQ] at hon;rw [hmQ] at hon;refine Qs {cu:=[8,9]} Tryz.func26 Tryz.ntmps26 ?_;refine clX (Qh h) ?_
 repeat refine o1 ?_
 refine knF ?_;refine clX (QS hs) ?_
 repeat refine o0 ?_
 refine knF ?_;refine clX (Zf (c:=c) h.pl (h86 h)) ?_
 repeat refine o1 ?_
 refine ⟨⟨[(1,.s at_),(5,.own 1005 0),(6,.own 1006 0),(11,.own 1011 0)],[(1005,.box [.i 10,.s [],.i 0,.u32 (adr n),.i (n.length:Int)] 48),(1006,.box [.s [],.i 0,.nil] 25),(1011,bK c 61 c.ps.length),(61,rK c.ps.length (c.ps) nmK),(7000,dK (c.ps) 0),(7001,dK (c.ps) 1),(7002,dK (c.ps) 2),(7003,dK (c.ps) 3),(7004,dK (c.ps) 4),(7005,dK (c.ps) 5)]⟩,?_,?_⟩
 ·skip
  repeat refine o2 ?_
  trivial
 refine clX hon ?_
 repeat refine o2 ?_
 refine ⟨⟨[(12,.s at_),(13,.i 0),(6,.own 1006 0),(11,.own 1011 0)],[(1006,.box [.s [],.i 0,.nil] 25),(1011,bK c 61 c.ps.length),(61,rK c.ps.length (Qq c.ps 5 n) [7000,7001,7002,7003,7004,7100]),(7000,dK (Qq c.ps 5 n) 0),(7001,dK (Qq c.ps 5 n) 1),(7002,dK (Qq c.ps 5 n) 2),(7003,dK (Qq c.ps 5 n) 3),(7004,dK (Qq c.ps 5 n) 4),(7100,dK (Qq c.ps 5 n) 5)]⟩,?_,?_⟩
 ·skip
  repeat refine o2 ?_
  trivial
 refine knF ?_;refine clX (QK (c:=⟨c.k,c.port,Qq c.ps 5 n⟩) (hl3 ho) (h86 ho)) ?_
 repeat (refine Ob.mk ?_ ?_;focus (first | (exact QtI hpl) | (exact Qxw hpl) | (exact hml.symm) | (exact fun _ _ _ _=>rfl) | (exact Qzb _) | omega))
 trivial
end
section
open Go.RowKit
theorem cf_OneW {c:ConfS} {a:List UInt8} {s:SetS} (h:ConfOk c) (ha:Qb0 a) (hs:Qx s) (hz:(Qi c a s).2.2=0):Cf Tryz.prog 26 [] [Qp c,.s a,Z9 s] [(60,rowP (Qi c a s).1.ps)] (.tup [aggP (Qi c a s).1,.s (Qi c a s).2.1,.i 0]):=by
 obtain ⟨k1,k2,k3,k4,k5,k6,k7,k8,k9⟩:=YI hs.1;have ok:=(Xs h ha hs).1;obtain ⟨sk,st,sn,sp⟩:=s;simp only at k1 k2 k3 k4 k5 k6 k7 k8 k9;by_cases e1:sk=1
 ·subst e1;obtain rfl:sn=0:=k4 (by decide);obtain rfl:sp=[]:=k5 (by decide);rcases Vf c.ps st with ⟨q,_⟩ | ⟨i,hi,q,_⟩
  ·have e:Qi c a ⟨1,st,0,[]⟩=(⟨st,c.port,c.ps⟩,[],0):=by
    show (if Qv c.ps st = -1 then (⟨st,c.port,c.ps⟩,[],0) else noS 14)=_;rw [if_pos q]
   rw [e] at ok hz ⊢;exact cf_One1NWO q h hs ok
  ·have e:Qi c a ⟨1,st,0,[]⟩=noS 14:=by
    show (if Qv c.ps st = -1 then (⟨st,c.port,c.ps⟩,[],0) else noS 14)=_;rw [if_neg (by omega)]
   rw [e] at hz;exact absurd hz (by decide)
 by_cases e2:sk=2
 ·subst e2;obtain rfl:st=[]:=k3 (by decide);obtain rfl:sp=[]:=k5 (by decide);exact cf_One2WO h hs ok
 by_cases e3:sk=3
 ·subst e3;obtain rfl:st=[]:=k3 (by decide);obtain rfl:sn=0:=k4 (by decide);obtain rfl:sp=[]:=k5 (by decide);exact cf_One3WO h hs ok
 by_cases e4:sk=4
 ·subst e4;obtain rfl:sn=0:=k4 (by decide);obtain rfl:sp=[]:=k5 (by decide);have e:Qi c a ⟨4,st,0,[]⟩=if st=c.k then noS 14 else if ¬ Qv c.ps st = -1 then (c,st,0) else if c.ps.length=6 then noS 7 else (Qer c st,st,0):=rfl
  rw [e] at ok hz ⊢;by_cases q:st=c.k
  ·rw [if_pos q] at hz;subst q;exact absurd hz (by decide)
  rw [if_neg q] at ok hz ⊢;rcases Vf c.ps st with ⟨q2,_⟩ | ⟨i,hi,q2,_⟩
  ·rw [if_neg (not_not_intro q2)] at ok hz ⊢;by_cases q3:c.ps.length=6
   ·rw [if_pos q3] at hz;exact absurd hz (by decide)
   ·rw [if_neg q3] at ok hz ⊢;exact cf_One4NWO (Nat.lt_of_le_of_ne h.pl q3) q2 q h hs ok
  ·rw [if_pos (by omega)] at ok hz ⊢;exact cf_One4YWO q2 q h hs ok
 have h5:5≤sk:=by omega
 have eo:Qi c a ⟨sk,st,sn,sp⟩=if a=[]∨Qv c.ps a = -1 then noS 13 else Qes c a (Qv c.ps a).toNat ⟨sk,st,sn,sp⟩:=by
  show (if sk=1 then _ else if sk=2 then _ else if sk=3 then _ else if sk=4 then _ else if a=[]∨Qv c.ps a = -1 then noS 13 else Qes c a (Qv c.ps a).toNat ⟨sk,st,sn,sp⟩)=_;rw [if_neg e1,if_neg e2,if_neg e3,if_neg e4]
 rw [eo] at ok hz ⊢;by_cases q:a=[]
 ·rw [if_pos (.inl q)] at hz;subst q;exact absurd hz (by decide)
 rcases Vf c.ps a with ⟨q2,_⟩ | ⟨i,hi,q2,_⟩
 ·rw [if_pos (.inr q2)] at hz;exact absurd hz (by decide)
 rw [if_neg (by rw [not_or];exact ⟨q,by omega⟩),q2,Int.toNat_natCast] at ok hz ⊢;by_cases e5:sk=5
 ·subst e5;obtain rfl:st=[]:=k3 (by decide);obtain rfl:sn=0:=k4 (by decide);obtain rfl:sp=[]:=k5 (by decide);exact cf_One5WO q hi q2 h hs ok
 by_cases e6:sk=6
 ·subst e6;obtain rfl:sn=0:=k4 (by decide);obtain rfl:sp=[]:=k5 (by decide);exact cf_One6WO q hi q2 h hs ok
 by_cases e7:sk=7
 ·subst e7;obtain rfl:sn=0:=k4 (by decide);obtain rfl:sp=[]:=k5 (by decide);exact cf_One7WO q hi q2 h hs ok
 by_cases e8:sk=8
 ·subst e8;obtain rfl:st=[]:=k3 (by decide);obtain rfl:sp=[]:=k5 (by decide);exact cf_One8WO q hi q2 h hs ok
 by_cases e9:sk=9
 ·subst e9;obtain rfl:st=[]:=k3 (by decide);obtain rfl:sn=0:=k4 (by decide);obtain rfl:sp=[]:=k5 (by decide);exact cf_One9WO q hi q2 h hs ok
 obtain rfl:sk=10:=by omega
 obtain rfl:st=[]:=k3 (by decide);obtain rfl:sn=0:=k4 (by decide);have eq:Qes c a i ⟨10,[],0,sp⟩=if Wn c i sp then noS 7 else (⟨c.k,c.port,Qq c.ps i sp⟩,a,0):=rfl
 rw [eq] at ok hz ⊢;have hpl:=h.pl;have hi6:i=0∨i=1∨i=2∨i=3∨i=4∨i=5:=by omega
 by_cases hf:Wn c i sp
 ·rw [if_pos hf] at hz;rcases hi6 with rfl | rfl | rfl | rfl | rfl | rfl
  ·exact absurd hz (by decide)
  ·exact absurd hz (by decide)
  ·exact absurd hz (by decide)
  ·exact absurd hz (by decide)
  ·exact absurd hz (by decide)
  ·exact absurd hz (by decide)
 ·rw [if_neg hf] at ok hz ⊢;rcases hi6 with rfl | rfl | rfl | rfl | rfl | rfl
  ·exact cf_One10K0WO q hi q2 hf h hs ok
  ·exact cf_One10K1WO q hi q2 hf h hs ok
  ·exact cf_One10K2WO q hi q2 hf h hs ok
  ·exact cf_One10K3WO q hi q2 hf h hs ok
  ·exact cf_One10K4WO q hi q2 hf h hs ok
  ·exact cf_One10K5WO q hi q2 hf h hs ok
end
end Go.Proofs.YtcebndkiagbddaaGreatDoor
