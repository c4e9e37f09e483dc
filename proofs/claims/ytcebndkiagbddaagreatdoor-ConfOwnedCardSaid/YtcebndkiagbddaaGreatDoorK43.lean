/- A part of the proof: contracts of functions and what they stand on. Written shorter and merged by a program (pack.py). -/
import Derived.Test.YtcebndkiagbddaaGreatDoorK41
import Derived.Test.YtcebndkiagbddaaGreatDoorK40
import Derived.Test.YtcebndkiagbddaaGreatDoorK39
set_option linter.unusedVariables false
set_option linter.unusedSimpArgs false
set_option maxRecDepth 100000
set_option maxHeartbeats 4000000
open List renaming length_append -> Qxo, filter_append -> Qxp, getElem?_eq_getElem -> Qxq, filter_cons_of_neg -> Qxr, filter_cons_of_pos -> Qxs, mem_cons_of_mem -> Qxt
namespace Go.Proofs.YtcebndkiagbddaaGreatDoor
section
open Tr
def kp (k:UInt32×Int):List Bool:=YB k.1.toNat k.2.toNat
def KOk (es:Q7):Prop:=∀ e∈es,∃ p:List Bool,p.length<=32/\e.1=QiI p
theorem QmC {k:UInt32×Int} {v:List UInt8} (hk:∃ p:List Bool,p.length<=32/\k=QiI p):∀ {es:Q7},KOk es->KOk (Qar k v es)
 | [],h=>by rw [Qfo];intro e he;rw [List.mem_singleton] at he;rw [he];exact hk
 | x::es,h=>by
  have ih:=QmC (v:=v) hk (es:=es) fun e he=>h e (Qxt _ he);rw [J2];split
  ·intro e he;rcases List.mem_cons.1 he with rfl | he
   ·exact hk
   ·exact h e (Qxt _ he)
  ·intro e he;rcases List.mem_cons.1 he with rfl | he
   ·exact h _ List.mem_cons_self
   ·exact ih e he
theorem kOk_L (l:List RawS):∀ i,KOk (mpRL l i)
 | 0=>fun e he=>by cases he
 | i+1=>QmC ⟨rnet (rAt l i),QaP,rfl⟩ (kOk_L l i)
def Yr (L:List Nd):Nat->List Nd
 | 0=>[]
 | i+1=>bif !decide ((nAt L i).o=[]) then Yr L i++[⟨(nAt L i).p,(nAt L i).o,1⟩] else Yr L i
theorem Qd0 (L:List Nd):∀ i,(Yr L i).length<=i
 | 0=>Nat.le_refl _
 | i+1=>by
  have:=Qd0 L i;unfold Yr;cases decide ((nAt L i).o=[])
  ·show (Yr L i++[_]).length<=_;rw [Qxo];simp;omega
  ·show (Yr L i).length<=_;omega
theorem QiL (L:List Nd):∀ i,i<=L.length->(Yr L i).length=((L.take i).filter fun n=>!decide (n.o=[])).length
 | 0,_=>rfl
 | i+1,h=>by
  have ih:=QiL L i (by omega);have e:nAt L i=L[i]:=by show L.getD i default=L[i];rw [List.getD_eq_getElem?_getD,Qxq (by omega)];rfl
  have e2:L.take (i+1)=L.take i++[L[i]]:=by rw [List.take_add_one,Qxq (by omega)];rfl
  unfold Yr;rw [e2,Qxp,Qxo,<- ih,e];by_cases hq:L[i].o=[]
  ·rw [decide_eq_true hq,Qxr (by simp [hq])];rfl
  ·rw [decide_eq_false hq,Qxs (by simp [hq])];simp
theorem Qd1:∀ T:Tr,YH T=(T.flat.filter fun n=>!decide (n.o=[])).length
 | .nil=>rfl
 | .node p o l r=>by
  rw [YH,Tr.flat,Qd1 l,Qd1 r];by_cases h:o=[]
  ·rw [if_pos h,Qxr (by simp [h]),Qxp,Qxo];omega
  ·rw [if_neg h,Qxs (by simp [h]),Qxp,List.length_cons,Qxo];omega
theorem QqL (T:Tr):(Yr T.flat T.flat.length).length=YH T:=by
 rw [QiL _ _ (Nat.le_refl _),List.take_length,Qd1]
end
section
open Go.RowKit
theorem Qev {c:ConfS} {at_:List UInt8} {n:List Bool} (hc:PsOk c.ps) (ha:at_≠[]) (hi0:0 < c.ps.length) (hk:Qq c.ps at_=((0:Nat):Int)) (hn:n.length<=32):Cf Tryz.prog 70 [(0,bK c 1 c.ps.length),(1,rK c.ps.length (c.ps) nmK),(7000,dK (c.ps) 0),(7001,dK (c.ps) 1),(7002,dK (c.ps) 2),(7003,dK (c.ps) 3),(7004,dK (c.ps) 4),(7005,dK (c.ps) 5)] [.own 0 0,.s at_,.agg [.i 10,.s [],.i 0,.u32 (adr n),.i (n.length:Int)]] [(0,bK c 1 c.ps.length),(1,rK c.ps.length (Qg c.ps 0 n) [7100,7001,7002,7003,7004,7005]),(7100,dK (Qg c.ps 0 n) 0),(7001,dK (Qg c.ps 0 n) 1),(7002,dK (Qg c.ps 0 n) 2),(7003,dK (Qg c.ps 0 n) 3),(7004,dK (Qg c.ps 0 n) 4),(7005,dK (Qg c.ps 0 n) 5)] (.tup [.s at_,.i (Q5 c.ps 0 n)]):=by
 have hpl:(psD c.ps n c.ps.length).length=c.ps.length:=Q2;refine QJ {cu:=[6,22]} Tryz.func70 Tryz.ntmps70 ?_;refine clX (Yh (c:=c) (k:=10) (n:=0) (b:=(n.length:Int)) (t:=[]) (a:=adr n) (by decide)) ?_
 repeat refine o1 ?_
 refine knF (knF ?_);refine ⟨⟨[(0,.own 0 0),(4,.own 1004 0),(5,.own 1005 0)],[(0,bK c 1 c.ps.length),(1,rK c.ps.length (c.ps) nmK),(7000,dK (c.ps) 0),(7001,dK (c.ps) 1),(7002,dK (c.ps) 2),(7003,dK (c.ps) 3),(7004,dK (c.ps) 4),(7005,dK (c.ps) 5),(1004,.box [.s at_] 9),(1005,.box [.i 10,.s [],.i 0,.u32 (adr n),.i (n.length:Int)] 48)]⟩,?_,?_⟩
 ·skip
  repeat refine o1 ?_
  trivial
 refine clX (WD (c:=c) (at_:=at_) (i:=0) hc.len ha hi0 hk) ?_
 repeat refine o1 ?_
 refine knF (knF (knF (knF (knF (knF (knT ?_))))));refine ⟨⟨[(0,.own 0 0),(4,.own 1004 0),(5,.own 1005 0)],[(0,bK c 1 c.ps.length),(1,rK c.ps.length (c.ps) nmK),(7000,dK (c.ps) 0),(7001,dK (c.ps) 1),(7002,dK (c.ps) 2),(7003,dK (c.ps) 3),(7004,dK (c.ps) 4),(7005,dK (c.ps) 5),(1004,.box [.s at_] 9),(1005,.box [.i 10,.s [],.i 0,.u32 (adr n),.i (n.length:Int)] 48)]⟩,?_,?_⟩
 ·skip
  repeat refine o1 ?_
  trivial
 refine ⟨[0,0,0,0,8,30,63,127],by kernel_rfl,?_⟩;refine clX (QoV (c:=c) hc ha hi0 hk hn) ?_
 repeat refine o1 ?_
 trivial
end
section
open Go.RowKit
theorem Qew {c:ConfS} {at_:List UInt8} {n:List Bool} (hc:PsOk c.ps) (ha:at_≠[]) (hi0:1 < c.ps.length) (hk:Qq c.ps at_=((1:Nat):Int)) (hn:n.length<=32):Cf Tryz.prog 70 [(0,bK c 1 c.ps.length),(1,rK c.ps.length (c.ps) nmK),(7000,dK (c.ps) 0),(7001,dK (c.ps) 1),(7002,dK (c.ps) 2),(7003,dK (c.ps) 3),(7004,dK (c.ps) 4),(7005,dK (c.ps) 5)] [.own 0 0,.s at_,.agg [.i 10,.s [],.i 0,.u32 (adr n),.i (n.length:Int)]] [(0,bK c 1 c.ps.length),(1,rK c.ps.length (Qg c.ps 1 n) [7000,7100,7002,7003,7004,7005]),(7000,dK (Qg c.ps 1 n) 0),(7100,dK (Qg c.ps 1 n) 1),(7002,dK (Qg c.ps 1 n) 2),(7003,dK (Qg c.ps 1 n) 3),(7004,dK (Qg c.ps 1 n) 4),(7005,dK (Qg c.ps 1 n) 5)] (.tup [.s at_,.i (Q5 c.ps 1 n)]):=by
 have hpl:(psD c.ps n c.ps.length).length=c.ps.length:=Q2;refine QJ {cu:=[6,22]} Tryz.func70 Tryz.ntmps70 ?_;refine clX (Yh (c:=c) (k:=10) (n:=0) (b:=(n.length:Int)) (t:=[]) (a:=adr n) (by decide)) ?_
 repeat refine o1 ?_
 refine knF (knF ?_);refine ⟨⟨[(0,.own 0 0),(4,.own 1004 0),(5,.own 1005 0)],[(0,bK c 1 c.ps.length),(1,rK c.ps.length (c.ps) nmK),(7000,dK (c.ps) 0),(7001,dK (c.ps) 1),(7002,dK (c.ps) 2),(7003,dK (c.ps) 3),(7004,dK (c.ps) 4),(7005,dK (c.ps) 5),(1004,.box [.s at_] 9),(1005,.box [.i 10,.s [],.i 0,.u32 (adr n),.i (n.length:Int)] 48)]⟩,?_,?_⟩
 ·skip
  repeat refine o1 ?_
  trivial
 refine clX (WD (c:=c) (at_:=at_) (i:=1) hc.len ha hi0 hk) ?_
 repeat refine o1 ?_
 refine knF (knF (knF (knF (knF (knF (knT ?_))))));refine ⟨⟨[(0,.own 0 0),(4,.own 1004 0),(5,.own 1005 0)],[(0,bK c 1 c.ps.length),(1,rK c.ps.length (c.ps) nmK),(7000,dK (c.ps) 0),(7001,dK (c.ps) 1),(7002,dK (c.ps) 2),(7003,dK (c.ps) 3),(7004,dK (c.ps) 4),(7005,dK (c.ps) 5),(1004,.box [.s at_] 9),(1005,.box [.i 10,.s [],.i 0,.u32 (adr n),.i (n.length:Int)] 48)]⟩,?_,?_⟩
 ·skip
  repeat refine o1 ?_
  trivial
 refine ⟨[0,0,0,0,8,30,63,127],by kernel_rfl,?_⟩;refine clX (QoW (c:=c) hc ha hi0 hk hn) ?_
 repeat refine o1 ?_
 trivial
end
section
open Go.RowKit
theorem Qex {c:ConfS} {at_:List UInt8} {n:List Bool} (hc:PsOk c.ps) (ha:at_≠[]) (hi0:2 < c.ps.length) (hk:Qq c.ps at_=((2:Nat):Int)) (hn:n.length<=32):Cf Tryz.prog 70 [(0,bK c 1 c.ps.length),(1,rK c.ps.length (c.ps) nmK),(7000,dK (c.ps) 0),(7001,dK (c.ps) 1),(7002,dK (c.ps) 2),(7003,dK (c.ps) 3),(7004,dK (c.ps) 4),(7005,dK (c.ps) 5)] [.own 0 0,.s at_,.agg [.i 10,.s [],.i 0,.u32 (adr n),.i (n.length:Int)]] [(0,bK c 1 c.ps.length),(1,rK c.ps.length (Qg c.ps 2 n) [7000,7001,7100,7003,7004,7005]),(7000,dK (Qg c.ps 2 n) 0),(7001,dK (Qg c.ps 2 n) 1),(7100,dK (Qg c.ps 2 n) 2),(7003,dK (Qg c.ps 2 n) 3),(7004,dK (Qg c.ps 2 n) 4),(7005,dK (Qg c.ps 2 n) 5)] (.tup [.s at_,.i (Q5 c.ps 2 n)]):=by
 have hpl:(psD c.ps n c.ps.length).length=c.ps.length:=Q2;refine QJ {cu:=[6,22]} Tryz.func70 Tryz.ntmps70 ?_;refine clX (Yh (c:=c) (k:=10) (n:=0) (b:=(n.length:Int)) (t:=[]) (a:=adr n) (by decide)) ?_
 repeat refine o1 ?_
 refine knF (knF ?_);refine ⟨⟨[(0,.own 0 0),(4,.own 1004 0),(5,.own 1005 0)],[(0,bK c 1 c.ps.length),(1,rK c.ps.length (c.ps) nmK),(7000,dK (c.ps) 0),(7001,dK (c.ps) 1),(7002,dK (c.ps) 2),(7003,dK (c.ps) 3),(7004,dK (c.ps) 4),(7005,dK (c.ps) 5),(1004,.box [.s at_] 9),(1005,.box [.i 10,.s [],.i 0,.u32 (adr n),.i (n.length:Int)] 48)]⟩,?_,?_⟩
 ·skip
  repeat refine o1 ?_
  trivial
 refine clX (WD (c:=c) (at_:=at_) (i:=2) hc.len ha hi0 hk) ?_
 repeat refine o1 ?_
 refine knF (knF (knF (knF (knF (knF (knT ?_))))));refine ⟨⟨[(0,.own 0 0),(4,.own 1004 0),(5,.own 1005 0)],[(0,bK c 1 c.ps.length),(1,rK c.ps.length (c.ps) nmK),(7000,dK (c.ps) 0),(7001,dK (c.ps) 1),(7002,dK (c.ps) 2),(7003,dK (c.ps) 3),(7004,dK (c.ps) 4),(7005,dK (c.ps) 5),(1004,.box [.s at_] 9),(1005,.box [.i 10,.s [],.i 0,.u32 (adr n),.i (n.length:Int)] 48)]⟩,?_,?_⟩
 ·skip
  repeat refine o1 ?_
  trivial
 refine ⟨[0,0,0,0,8,30,63,127],by kernel_rfl,?_⟩;refine clX (QoX (c:=c) hc ha hi0 hk hn) ?_
 repeat refine o1 ?_
 trivial
end
section
open Go.RowKit
theorem Qey {c:ConfS} {at_:List UInt8} {n:List Bool} (hc:PsOk c.ps) (ha:at_≠[]) (hi0:3 < c.ps.length) (hk:Qq c.ps at_=((3:Nat):Int)) (hn:n.length<=32):Cf Tryz.prog 70 [(0,bK c 1 c.ps.length),(1,rK c.ps.length (c.ps) nmK),(7000,dK (c.ps) 0),(7001,dK (c.ps) 1),(7002,dK (c.ps) 2),(7003,dK (c.ps) 3),(7004,dK (c.ps) 4),(7005,dK (c.ps) 5)] [.own 0 0,.s at_,.agg [.i 10,.s [],.i 0,.u32 (adr n),.i (n.length:Int)]] [(0,bK c 1 c.ps.length),(1,rK c.ps.length (Qg c.ps 3 n) [7000,7001,7002,7100,7004,7005]),(7000,dK (Qg c.ps 3 n) 0),(7001,dK (Qg c.ps 3 n) 1),(7002,dK (Qg c.ps 3 n) 2),(7100,dK (Qg c.ps 3 n) 3),(7004,dK (Qg c.ps 3 n) 4),(7005,dK (Qg c.ps 3 n) 5)] (.tup [.s at_,.i (Q5 c.ps 3 n)]):=by
 have hpl:(psD c.ps n c.ps.length).length=c.ps.length:=Q2;refine QJ {cu:=[6,22]} Tryz.func70 Tryz.ntmps70 ?_;refine clX (Yh (c:=c) (k:=10) (n:=0) (b:=(n.length:Int)) (t:=[]) (a:=adr n) (by decide)) ?_
 repeat refine o1 ?_
 refine knF (knF ?_);refine ⟨⟨[(0,.own 0 0),(4,.own 1004 0),(5,.own 1005 0)],[(0,bK c 1 c.ps.length),(1,rK c.ps.length (c.ps) nmK),(7000,dK (c.ps) 0),(7001,dK (c.ps) 1),(7002,dK (c.ps) 2),(7003,dK (c.ps) 3),(7004,dK (c.ps) 4),(7005,dK (c.ps) 5),(1004,.box [.s at_] 9),(1005,.box [.i 10,.s [],.i 0,.u32 (adr n),.i (n.length:Int)] 48)]⟩,?_,?_⟩
 ·skip
  repeat refine o1 ?_
  trivial
 refine clX (WD (c:=c) (at_:=at_) (i:=3) hc.len ha hi0 hk) ?_
 repeat refine o1 ?_
 refine knF (knF (knF (knF (knF (knF (knT ?_))))));refine ⟨⟨[(0,.own 0 0),(4,.own 1004 0),(5,.own 1005 0)],[(0,bK c 1 c.ps.length),(1,rK c.ps.length (c.ps) nmK),(7000,dK (c.ps) 0),(7001,dK (c.ps) 1),(7002,dK (c.ps) 2),(7003,dK (c.ps) 3),(7004,dK (c.ps) 4),(7005,dK (c.ps) 5),(1004,.box [.s at_] 9),(1005,.box [.i 10,.s [],.i 0,.u32 (adr n),.i (n.length:Int)] 48)]⟩,?_,?_⟩
 ·skip
  repeat refine o1 ?_
  trivial
 refine ⟨[0,0,0,0,8,30,63,127],by kernel_rfl,?_⟩;refine clX (QoY (c:=c) hc ha hi0 hk hn) ?_
 repeat refine o1 ?_
 trivial
end
section
open Go.RowKit
theorem Qez {c:ConfS} {at_:List UInt8} {n:List Bool} (hc:PsOk c.ps) (ha:at_≠[]) (hi0:4 < c.ps.length) (hk:Qq c.ps at_=((4:Nat):Int)) (hn:n.length<=32):Cf Tryz.prog 70 [(0,bK c 1 c.ps.length),(1,rK c.ps.length (c.ps) nmK),(7000,dK (c.ps) 0),(7001,dK (c.ps) 1),(7002,dK (c.ps) 2),(7003,dK (c.ps) 3),(7004,dK (c.ps) 4),(7005,dK (c.ps) 5)] [.own 0 0,.s at_,.agg [.i 10,.s [],.i 0,.u32 (adr n),.i (n.length:Int)]] [(0,bK c 1 c.ps.length),(1,rK c.ps.length (Qg c.ps 4 n) [7000,7001,7002,7003,7100,7005]),(7000,dK (Qg c.ps 4 n) 0),(7001,dK (Qg c.ps 4 n) 1),(7002,dK (Qg c.ps 4 n) 2),(7003,dK (Qg c.ps 4 n) 3),(7100,dK (Qg c.ps 4 n) 4),(7005,dK (Qg c.ps 4 n) 5)] (.tup [.s at_,.i (Q5 c.ps 4 n)]):=by
 have hpl:(psD c.ps n c.ps.length).length=c.ps.length:=Q2;refine QJ {cu:=[6,22]} Tryz.func70 Tryz.ntmps70 ?_;refine clX (Yh (c:=c) (k:=10) (n:=0) (b:=(n.length:Int)) (t:=[]) (a:=adr n) (by decide)) ?_
 repeat refine o1 ?_
 refine knF (knF ?_);refine ⟨⟨[(0,.own 0 0),(4,.own 1004 0),(5,.own 1005 0)],[(0,bK c 1 c.ps.length),(1,rK c.ps.length (c.ps) nmK),(7000,dK (c.ps) 0),(7001,dK (c.ps) 1),(7002,dK (c.ps) 2),(7003,dK (c.ps) 3),(7004,dK (c.ps) 4),(7005,dK (c.ps) 5),(1004,.box [.s at_] 9),(1005,.box [.i 10,.s [],.i 0,.u32 (adr n),.i (n.length:Int)] 48)]⟩,?_,?_⟩
 ·skip
  repeat refine o1 ?_
  trivial
 refine clX (WD (c:=c) (at_:=at_) (i:=4) hc.len ha hi0 hk) ?_
 repeat refine o1 ?_
 refine knF (knF (knF (knF (knF (knF (knT ?_))))));refine ⟨⟨[(0,.own 0 0),(4,.own 1004 0),(5,.own 1005 0)],[(0,bK c 1 c.ps.length),(1,rK c.ps.length (c.ps) nmK),(7000,dK (c.ps) 0),(7001,dK (c.ps) 1),(7002,dK (c.ps) 2),(7003,dK (c.ps) 3),(7004,dK (c.ps) 4),(7005,dK (c.ps) 5),(1004,.box [.s at_] 9),(1005,.box [.i 10,.s [],.i 0,.u32 (adr n),.i (n.length:Int)] 48)]⟩,?_,?_⟩
 ·skip
  repeat refine o1 ?_
  trivial
 refine ⟨[0,0,0,0,8,30,63,127],by kernel_rfl,?_⟩;refine clX (QoZ (c:=c) hc ha hi0 hk hn) ?_
 repeat refine o1 ?_
 trivial
end
section
open Go.RowKit
theorem QeA {c:ConfS} {at_:List UInt8} {n:List Bool} (hc:PsOk c.ps) (ha:at_≠[]) (hi0:5 < c.ps.length) (hk:Qq c.ps at_=((5:Nat):Int)) (hn:n.length<=32):Cf Tryz.prog 70 [(0,bK c 1 c.ps.length),(1,rK c.ps.length (c.ps) nmK),(7000,dK (c.ps) 0),(7001,dK (c.ps) 1),(7002,dK (c.ps) 2),(7003,dK (c.ps) 3),(7004,dK (c.ps) 4),(7005,dK (c.ps) 5)] [.own 0 0,.s at_,.agg [.i 10,.s [],.i 0,.u32 (adr n),.i (n.length:Int)]] [(0,bK c 1 c.ps.length),(1,rK c.ps.length (Qg c.ps 5 n) [7000,7001,7002,7003,7004,7100]),(7000,dK (Qg c.ps 5 n) 0),(7001,dK (Qg c.ps 5 n) 1),(7002,dK (Qg c.ps 5 n) 2),(7003,dK (Qg c.ps 5 n) 3),(7004,dK (Qg c.ps 5 n) 4),(7100,dK (Qg c.ps 5 n) 5)] (.tup [.s at_,.i (Q5 c.ps 5 n)]):=by
 have hpl:(psD c.ps n c.ps.length).length=c.ps.length:=Q2;refine QJ {cu:=[6,22]} Tryz.func70 Tryz.ntmps70 ?_;refine clX (Yh (c:=c) (k:=10) (n:=0) (b:=(n.length:Int)) (t:=[]) (a:=adr n) (by decide)) ?_
 repeat refine o1 ?_
 refine knF (knF ?_);refine ⟨⟨[(0,.own 0 0),(4,.own 1004 0),(5,.own 1005 0)],[(0,bK c 1 c.ps.length),(1,rK c.ps.length (c.ps) nmK),(7000,dK (c.ps) 0),(7001,dK (c.ps) 1),(7002,dK (c.ps) 2),(7003,dK (c.ps) 3),(7004,dK (c.ps) 4),(7005,dK (c.ps) 5),(1004,.box [.s at_] 9),(1005,.box [.i 10,.s [],.i 0,.u32 (adr n),.i (n.length:Int)] 48)]⟩,?_,?_⟩
 ·skip
  repeat refine o1 ?_
  trivial
 refine clX (WD (c:=c) (at_:=at_) (i:=5) hc.len ha hi0 hk) ?_
 repeat refine o1 ?_
 refine knF (knF (knF (knF (knF (knF (knT ?_))))));refine ⟨⟨[(0,.own 0 0),(4,.own 1004 0),(5,.own 1005 0)],[(0,bK c 1 c.ps.length),(1,rK c.ps.length (c.ps) nmK),(7000,dK (c.ps) 0),(7001,dK (c.ps) 1),(7002,dK (c.ps) 2),(7003,dK (c.ps) 3),(7004,dK (c.ps) 4),(7005,dK (c.ps) 5),(1004,.box [.s at_] 9),(1005,.box [.i 10,.s [],.i 0,.u32 (adr n),.i (n.length:Int)] 48)]⟩,?_,?_⟩
 ·skip
  repeat refine o1 ?_
  trivial
 refine ⟨[0,0,0,0,8,30,63,127],by kernel_rfl,?_⟩;refine clX (Qo0 (c:=c) hc ha hi0 hk hn) ?_
 repeat refine o1 ?_
 trivial
end
end Go.Proofs.YtcebndkiagbddaaGreatDoor
