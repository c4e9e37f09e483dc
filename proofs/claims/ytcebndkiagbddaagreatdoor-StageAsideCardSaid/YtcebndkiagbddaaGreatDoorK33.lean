/- A part of the proof: contracts of functions and what they stand on. Written shorter and merged by a program (pack.py). -/
import Derived.Test.YtcebndkiagbddaaGreatDoorK31
set_option linter.unusedVariables false
set_option linter.unusedSimpArgs false
set_option maxRecDepth 100000
set_option maxHeartbeats 4000000
namespace Go.Proofs.YtcebndkiagbddaaGreatDoor
section
open Go.RowKit
theorem Xi {c:ConfS} {k n b:Int} {t:List UInt8} {a:UInt32} (hk:4≤k):Cf Tryz.prog 111 [(0,bK c 1 c.ps.length),(1,rK c.ps.length (c.ps) nmK),(7000,dK (c.ps) 0),(7001,dK (c.ps) 1),(7002,dK (c.ps) 2),(7003,dK (c.ps) 3),(7004,dK (c.ps) 4),(7005,dK (c.ps) 5)] [.own 0 0,.agg [.i k,.s t,.i n,.u32 a,.i b]] [(0,bK c 1 c.ps.length),(1,rK c.ps.length (c.ps) nmK),(7000,dK (c.ps) 0),(7001,dK (c.ps) 1),(7002,dK (c.ps) 2),(7003,dK (c.ps) 3),(7004,dK (c.ps) 4),(7005,dK (c.ps) 5)] (.tup [.b false,.i 0]):=by
 refine QV {} Tryz.func111 Tryz.ntmps111 ?_;refine ⟨fun h1=>?_,fun h1=>?_⟩
 ·skip
  have c1:=h1
  (simp only [bsX] at c1)
  exact absurd c1 (by omega)
 ·skip
  have c1:=h1
  (simp only [bsX] at c1)
  refine ⟨fun h2=>?_,fun h2=>?_⟩
  ·skip
   have c2:=h2
   (simp only [bsX] at c2)
   exact absurd c2 (by omega)
  ·skip
   have c2:=h2
   (simp only [bsX] at c2)
   refine ⟨fun h3=>?_,fun h3=>?_⟩
   ·skip
    have c3:=h3
    (simp only [bsX] at c3)
    exact absurd c3 (by omega)
   ·skip
    have c3:=h3
    (simp only [bsX] at c3)
    repeat refine o2 ?_
    trivial
end
section
open Go.RowKit
theorem Qq5 {c:ConfS} {at_:List UInt8} {n:List Bool} (hc:PsOk c.ps) (ha:at_≠[]) (hi0:1 < c.ps.length) (hk:Qv c.ps at_=((1:Nat):Int)) (hn:n.length≤32):Cf Tryz.prog 116 [(0,bK c 1 c.ps.length),(1,rK c.ps.length (c.ps) nmK),(7000,dK (c.ps) 0),(7001,dK (c.ps) 1),(7002,dK (c.ps) 2),(7003,dK (c.ps) 3),(7004,dK (c.ps) 4),(7005,dK (c.ps) 5)] [.own 0 0,.s at_,XJ n] [(0,bK c 1 c.ps.length),(1,rK c.ps.length (Qn c.ps 1 n) [7000,7100,7002,7003,7004,7005]),(7000,dK (Qn c.ps 1 n) 0),(7100,dK (Qn c.ps 1 n) 1),(7002,dK (Qn c.ps 1 n) 2),(7003,dK (Qn c.ps 1 n) 3),(7004,dK (Qn c.ps 1 n) 4),(7005,dK (Qn c.ps 1 n) 5)] (.i (WC c.ps 1 n)):=by
 have hl6:=hc.len;refine QV {} Tryz.func116 Tryz.ntmps116 ?_;refine ⟨Nat,fun i=>⟨[(0,.own 0 0),(1,.s at_),(5,.own 1005 0),(6,.i 0),(17,.i (c.ps.length:Int)),(18,.i (i:Int))],[(0,bK c 1 c.ps.length),(1,rK c.ps.length (psD c.ps n i) nmK),(7000,dK (psD c.ps n i) 0),(7001,dK (psD c.ps n i) 1),(7002,dK (psD c.ps n i) 2),(7003,dK (psD c.ps n i) 3),(7004,dK (psD c.ps n i) 4),(7005,dK (psD c.ps n i) 5),(1005,.row [.u32 (adr n),.i (n.length:Int)] 36 2 2)]⟩,fun i=>i≤c.ps.length,fun i=>c.ps.length - i,0,Nat.zero_le _,?_,fun i hx1=>?_⟩
 ·skip
  repeat refine o2 ?_
  trivial
 refine ⟨fun h1=>?_,fun h1=>?_⟩
 ·skip
  have c1:=h1
  (simp only [bsX] at c1)
  have hi:i < c.ps.length:=by omega
  rcases (by omega:i=0∨i=1∨i=2∨i=3∨i=4∨i=5) with rfl | rfl | rfl | rfl | rfl | rfl
  ·skip
   repeat refine o4 ?_
   refine clX (Qz (ns:=((psD c.ps n 0).getD 0 Qa).ns) (n:=n) (by have:=(hc.del n 0).nl 0;omega) ((hc.del n 0).nb 0)) ?_
   repeat refine o9 ?_
   refine Ql (0+1) ?_
   repeat refine o10 ?_
   trivial
  ·skip
   repeat refine o4 ?_
   refine clX (Qz (ns:=((psD c.ps n 1).getD 1 Qa).ns) (n:=n) (by have:=(hc.del n 1).nl 1;omega) ((hc.del n 1).nb 1)) ?_
   repeat refine o9 ?_
   refine Ql (1+1) ?_
   repeat refine o10 ?_
   trivial
  ·skip
   repeat refine o4 ?_
   refine clX (Qz (ns:=((psD c.ps n 2).getD 2 Qa).ns) (n:=n) (by have:=(hc.del n 2).nl 2;omega) ((hc.del n 2).nb 2)) ?_
   repeat refine o9 ?_
   refine Ql (2+1) ?_
   repeat refine o10 ?_
   trivial
  ·skip
   repeat refine o4 ?_
   refine clX (Qz (ns:=((psD c.ps n 3).getD 3 Qa).ns) (n:=n) (by have:=(hc.del n 3).nl 3;omega) ((hc.del n 3).nb 3)) ?_
   repeat refine o9 ?_
   refine Ql (3+1) ?_
   repeat refine o10 ?_
   trivial
  ·skip
   repeat refine o4 ?_
   refine clX (Qz (ns:=((psD c.ps n 4).getD 4 Qa).ns) (n:=n) (by have:=(hc.del n 4).nl 4;omega) ((hc.del n 4).nb 4)) ?_
   repeat refine o9 ?_
   refine Ql (4+1) ?_
   repeat refine o10 ?_
   trivial
  ·skip
   repeat refine o4 ?_
   refine clX (Qz (ns:=((psD c.ps n 5).getD 5 Qa).ns) (n:=n) (by have:=(hc.del n 5).nl 5;omega) ((hc.del n 5).nb 5)) ?_
   repeat refine o9 ?_
   refine Ql (5+1) ?_
   repeat refine o10 ?_
   trivial
 ·skip
  have c1:=h1
  (simp only [bsX] at c1)
  have hi:i=c.ps.length:=by omega
  subst hi;have hcd:=hc.del n c.ps.length;have hpe:=Zg (c:=⟨c.k,c.port,psD c.ps n c.ps.length⟩) (at_:=at_) (i:=1) hcd.len ha (by rw [show (ConfS.mk c.k c.port (psD c.ps n c.ps.length)).ps.length=c.ps.length from Ws];exact hi0) ((Qbo c.ps n c.ps.length at_).trans hk);have hpl:(psD c.ps n c.ps.length).length=c.ps.length:=Ws;have hlb:=QbZ ((psD c.ps n c.ps.length).getD 1 Qa).ns n;have hl8:=hcd.nl 1;refine clX hpe ?_
  repeat refine o48 ?_
  refine ⟨fun h2=>?_,fun h2=>?_⟩
  ·skip
   (simp only [Int.reduceToNat,UInt8.reduceOfNat] at h2)
   have c2:=h2
   (simp only [bsX] at c2)
   have hf:Zz c.ps 1 n:=by unfold Zz;have:=c2;omega
   have hQ:Qn c.ps 1 n=psD c.ps n c.ps.length:=if_pos hf;have hE:WC c.ps 1 n=7:=if_pos hf
   repeat refine o49 ?_
   trivial
  ·skip
   (simp only [Int.reduceToNat,UInt8.reduceOfNat] at h2)
   have c2:=h2
   (simp only [bsX] at c2)
   have hf:¬ Zz c.ps 1 n:=by unfold Zz;have:=c2;omega
   have hQ:Qn c.ps 1 n=Qq c.ps 1 n:=if_neg hf;have hE:WC c.ps 1 n=0:=if_neg hf;refine ⟨[0,1,3,7,0,31,63,127,127,255,1023],by kernel_rfl,?_⟩
   repeat refine o26 ?_
   refine clX (Qbn (ns:=((psD c.ps n c.ps.length).getD 1 Qa).ns) (n:=n) (by omega) (hcd.ns 1)) ?_
   repeat refine o2 ?_
   refine ⟨[0,0,2,6,14,0,0,64,254,511,1023,2047],by kernel_rfl,?_⟩
   repeat refine o26 ?_
   refine clX (Jq (ns:=((psD c.ps n c.ps.length).getD 1 Qa).ns) (n:=n) hlb (by omega)) ?_
   repeat refine o50 ?_
   trivial
end
section
open Go.RowKit
theorem Qq7 {c:ConfS} {at_:List UInt8} {n:List Bool} (hc:PsOk c.ps) (ha:at_≠[]) (hi0:3 < c.ps.length) (hk:Qv c.ps at_=((3:Nat):Int)) (hn:n.length≤32):Cf Tryz.prog 116 [(0,bK c 1 c.ps.length),(1,rK c.ps.length (c.ps) nmK),(7000,dK (c.ps) 0),(7001,dK (c.ps) 1),(7002,dK (c.ps) 2),(7003,dK (c.ps) 3),(7004,dK (c.ps) 4),(7005,dK (c.ps) 5)] [.own 0 0,.s at_,XJ n] [(0,bK c 1 c.ps.length),(1,rK c.ps.length (Qn c.ps 3 n) [7000,7001,7002,7100,7004,7005]),(7000,dK (Qn c.ps 3 n) 0),(7001,dK (Qn c.ps 3 n) 1),(7002,dK (Qn c.ps 3 n) 2),(7100,dK (Qn c.ps 3 n) 3),(7004,dK (Qn c.ps 3 n) 4),(7005,dK (Qn c.ps 3 n) 5)] (.i (WC c.ps 3 n)):=by
 have hl6:=hc.len;refine QV {} Tryz.func116 Tryz.ntmps116 ?_;refine ⟨Nat,fun i=>⟨[(0,.own 0 0),(1,.s at_),(5,.own 1005 0),(6,.i 0),(17,.i (c.ps.length:Int)),(18,.i (i:Int))],[(0,bK c 1 c.ps.length),(1,rK c.ps.length (psD c.ps n i) nmK),(7000,dK (psD c.ps n i) 0),(7001,dK (psD c.ps n i) 1),(7002,dK (psD c.ps n i) 2),(7003,dK (psD c.ps n i) 3),(7004,dK (psD c.ps n i) 4),(7005,dK (psD c.ps n i) 5),(1005,.row [.u32 (adr n),.i (n.length:Int)] 36 2 2)]⟩,fun i=>i≤c.ps.length,fun i=>c.ps.length - i,0,Nat.zero_le _,?_,fun i hx1=>?_⟩
 ·skip
  repeat refine o2 ?_
  trivial
 refine ⟨fun h1=>?_,fun h1=>?_⟩
 ·skip
  have c1:=h1
  (simp only [bsX] at c1)
  have hi:i < c.ps.length:=by omega
  rcases (by omega:i=0∨i=1∨i=2∨i=3∨i=4∨i=5) with rfl | rfl | rfl | rfl | rfl | rfl
  ·skip
   repeat refine o4 ?_
   refine clX (Qz (ns:=((psD c.ps n 0).getD 0 Qa).ns) (n:=n) (by have:=(hc.del n 0).nl 0;omega) ((hc.del n 0).nb 0)) ?_
   repeat refine o9 ?_
   refine Ql (0+1) ?_
   repeat refine o10 ?_
   trivial
  ·skip
   repeat refine o4 ?_
   refine clX (Qz (ns:=((psD c.ps n 1).getD 1 Qa).ns) (n:=n) (by have:=(hc.del n 1).nl 1;omega) ((hc.del n 1).nb 1)) ?_
   repeat refine o9 ?_
   refine Ql (1+1) ?_
   repeat refine o10 ?_
   trivial
  ·skip
   repeat refine o4 ?_
   refine clX (Qz (ns:=((psD c.ps n 2).getD 2 Qa).ns) (n:=n) (by have:=(hc.del n 2).nl 2;omega) ((hc.del n 2).nb 2)) ?_
   repeat refine o9 ?_
   refine Ql (2+1) ?_
   repeat refine o10 ?_
   trivial
  ·skip
   repeat refine o4 ?_
   refine clX (Qz (ns:=((psD c.ps n 3).getD 3 Qa).ns) (n:=n) (by have:=(hc.del n 3).nl 3;omega) ((hc.del n 3).nb 3)) ?_
   repeat refine o9 ?_
   refine Ql (3+1) ?_
   repeat refine o10 ?_
   trivial
  ·skip
   repeat refine o4 ?_
   refine clX (Qz (ns:=((psD c.ps n 4).getD 4 Qa).ns) (n:=n) (by have:=(hc.del n 4).nl 4;omega) ((hc.del n 4).nb 4)) ?_
   repeat refine o9 ?_
   refine Ql (4+1) ?_
   repeat refine o10 ?_
   trivial
  ·skip
   repeat refine o4 ?_
   refine clX (Qz (ns:=((psD c.ps n 5).getD 5 Qa).ns) (n:=n) (by have:=(hc.del n 5).nl 5;omega) ((hc.del n 5).nb 5)) ?_
   repeat refine o9 ?_
   refine Ql (5+1) ?_
   repeat refine o10 ?_
   trivial
 ·skip
  have c1:=h1
  (simp only [bsX] at c1)
  have hi:i=c.ps.length:=by omega
  subst hi;have hcd:=hc.del n c.ps.length;have hpe:=Zg (c:=⟨c.k,c.port,psD c.ps n c.ps.length⟩) (at_:=at_) (i:=3) hcd.len ha (by rw [show (ConfS.mk c.k c.port (psD c.ps n c.ps.length)).ps.length=c.ps.length from Ws];exact hi0) ((Qbo c.ps n c.ps.length at_).trans hk);have hpl:(psD c.ps n c.ps.length).length=c.ps.length:=Ws;have hlb:=QbZ ((psD c.ps n c.ps.length).getD 3 Qa).ns n;have hl8:=hcd.nl 3;refine clX hpe ?_
  repeat refine o48 ?_
  refine ⟨fun h2=>?_,fun h2=>?_⟩
  ·skip
   (simp only [Int.reduceToNat,UInt8.reduceOfNat] at h2)
   have c2:=h2
   (simp only [bsX] at c2)
   have hf:Zz c.ps 3 n:=by unfold Zz;have:=c2;omega
   have hQ:Qn c.ps 3 n=psD c.ps n c.ps.length:=if_pos hf;have hE:WC c.ps 3 n=7:=if_pos hf
   repeat refine o49 ?_
   trivial
  ·skip
   (simp only [Int.reduceToNat,UInt8.reduceOfNat] at h2)
   have c2:=h2
   (simp only [bsX] at c2)
   have hf:¬ Zz c.ps 3 n:=by unfold Zz;have:=c2;omega
   have hQ:Qn c.ps 3 n=Qq c.ps 3 n:=if_neg hf;have hE:WC c.ps 3 n=0:=if_neg hf;refine ⟨[0,1,3,7,0,31,63,127,127,255,1023],by kernel_rfl,?_⟩
   repeat refine o26 ?_
   refine clX (Qbn (ns:=((psD c.ps n c.ps.length).getD 3 Qa).ns) (n:=n) (by omega) (hcd.ns 3)) ?_
   repeat refine o2 ?_
   refine ⟨[0,0,2,6,14,0,0,64,254,511,1023,2047],by kernel_rfl,?_⟩
   repeat refine o26 ?_
   refine clX (Jq (ns:=((psD c.ps n c.ps.length).getD 3 Qa).ns) (n:=n) hlb (by omega)) ?_
   repeat refine o50 ?_
   trivial
end
end Go.Proofs.YtcebndkiagbddaaGreatDoor
