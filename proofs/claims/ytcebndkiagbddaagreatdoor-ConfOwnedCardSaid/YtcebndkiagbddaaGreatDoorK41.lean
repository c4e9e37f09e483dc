/- A part of the proof: contracts of functions and what they stand on. Written shorter and merged by a program (pack.py). -/
import Derived.Test.YtcebndkiagbddaaGreatDoorK36
set_option linter.unusedVariables false
set_option linter.unusedSimpArgs false
set_option maxRecDepth 100000
set_option maxHeartbeats 4000000
open Nat renaming zero_le -> Qxo
open List renaming length_cons -> Qxw
namespace Go.Proofs.YtcebndkiagbddaaGreatDoor
section
open Go.RowKit
theorem QoV {c:ConfS} {at_:List UInt8} {n:List Bool} (hc:PsOk c.ps) (ha:at_≠[]) (hi0:0 < c.ps.length) (hk:Qq c.ps at_=((0:Nat):Int)) (hn:n.length<=32):Cf Tryz.prog 116 [(0,bK c 1 c.ps.length),(1,rK c.ps.length (c.ps) nmK),(7000,dK (c.ps) 0),(7001,dK (c.ps) 1),(7002,dK (c.ps) 2),(7003,dK (c.ps) 3),(7004,dK (c.ps) 4),(7005,dK (c.ps) 5)] [.own 0 0,.s at_,We n] [(0,bK c 1 c.ps.length),(1,rK c.ps.length (Qg c.ps 0 n) [7100,7001,7002,7003,7004,7005]),(7100,dK (Qg c.ps 0 n) 0),(7001,dK (Qg c.ps 0 n) 1),(7002,dK (Qg c.ps 0 n) 2),(7003,dK (Qg c.ps 0 n) 3),(7004,dK (Qg c.ps 0 n) 4),(7005,dK (Qg c.ps 0 n) 5)] (.i (Q5 c.ps 0 n)):=by
 have hl6:=hc.len;refine QJ {} Tryz.func116 Tryz.ntmps116 ?_;refine ⟨Nat,fun i=>⟨[(0,.own 0 0),(1,.s at_),(5,.own 1005 0),(6,.i 0),(17,.i (c.ps.length:Int)),(18,.i (i:Int))],[(0,bK c 1 c.ps.length),(1,rK c.ps.length (psD c.ps n i) nmK),(7000,dK (psD c.ps n i) 0),(7001,dK (psD c.ps n i) 1),(7002,dK (psD c.ps n i) 2),(7003,dK (psD c.ps n i) 3),(7004,dK (psD c.ps n i) 4),(7005,dK (psD c.ps n i) 5),(1005,.row [.u32 (adr n),.i (n.length:Int)] 36 2 2)]⟩,fun i=>i<=c.ps.length,fun i=>c.ps.length - i,0,Qxo _,?_,fun i hx1=>?_⟩
 ·skip
  repeat refine o1 ?_
  trivial
 refine ⟨fun h1=>?_,fun h1=>?_⟩
 ·skip
  have c1:=h1
  (simp only [bsX] at c1)
  have hi:i < c.ps.length:=by omega
  rcases (by omega:i=0\/i=1\/i=2\/i=3\/i=4\/i=5) with rfl | rfl | rfl | rfl | rfl | rfl
  ·skip
   repeat refine o3 ?_
   refine clX (Qo (ns:=((psD c.ps n 0).getD 0 Qa).ns) (n:=n) (by have:=(hc.del n 0).nl 0;omega) ((hc.del n 0).nb 0)) ?_
   repeat refine o5 ?_
   refine Qt (0+1) ?_
   repeat refine o6 ?_
   trivial
  ·skip
   repeat refine o3 ?_
   refine clX (Qo (ns:=((psD c.ps n 1).getD 1 Qa).ns) (n:=n) (by have:=(hc.del n 1).nl 1;omega) ((hc.del n 1).nb 1)) ?_
   repeat refine o5 ?_
   refine Qt (1+1) ?_
   repeat refine o6 ?_
   trivial
  ·skip
   repeat refine o3 ?_
   refine clX (Qo (ns:=((psD c.ps n 2).getD 2 Qa).ns) (n:=n) (by have:=(hc.del n 2).nl 2;omega) ((hc.del n 2).nb 2)) ?_
   repeat refine o5 ?_
   refine Qt (2+1) ?_
   repeat refine o6 ?_
   trivial
  ·skip
   repeat refine o3 ?_
   refine clX (Qo (ns:=((psD c.ps n 3).getD 3 Qa).ns) (n:=n) (by have:=(hc.del n 3).nl 3;omega) ((hc.del n 3).nb 3)) ?_
   repeat refine o5 ?_
   refine Qt (3+1) ?_
   repeat refine o6 ?_
   trivial
  ·skip
   repeat refine o3 ?_
   refine clX (Qo (ns:=((psD c.ps n 4).getD 4 Qa).ns) (n:=n) (by have:=(hc.del n 4).nl 4;omega) ((hc.del n 4).nb 4)) ?_
   repeat refine o5 ?_
   refine Qt (4+1) ?_
   repeat refine o6 ?_
   trivial
  ·skip
   repeat refine o3 ?_
   refine clX (Qo (ns:=((psD c.ps n 5).getD 5 Qa).ns) (n:=n) (by have:=(hc.del n 5).nl 5;omega) ((hc.del n 5).nb 5)) ?_
   repeat refine o5 ?_
   refine Qt (5+1) ?_
   repeat refine o6 ?_
   trivial
 ·skip
  have c1:=h1
  (simp only [bsX] at c1)
  have hi:i=c.ps.length:=by omega
  subst hi;have hcd:=hc.del n c.ps.length;have hpe:=WD (c:=⟨c.k,c.port,psD c.ps n c.ps.length⟩) (at_:=at_) (i:=0) hcd.len ha (by rw [show (ConfS.mk c.k c.port (psD c.ps n c.ps.length)).ps.length=c.ps.length from Q2];exact hi0) ((Jx c.ps n c.ps.length at_).trans hk);have hpl:(psD c.ps n c.ps.length).length=c.ps.length:=Q2;have hlb:=J5 ((psD c.ps n c.ps.length).getD 0 Qa).ns n;have hl8:=hcd.nl 0;refine clX hpe ?_
  repeat refine o29 ?_
  refine ⟨fun h2=>?_,fun h2=>?_⟩
  ·skip
   (simp only [Int.reduceToNat,UInt8.reduceOfNat] at h2)
   have c2:=h2
   (simp only [bsX] at c2)
   have hf:WP c.ps 0 n:=by unfold WP;have:=c2;omega
   have hQ:Qg c.ps 0 n=psD c.ps n c.ps.length:=if_pos hf;have hE:Q5 c.ps 0 n=7:=if_pos hf
   repeat refine o30 ?_
   trivial
  ·skip
   (simp only [Int.reduceToNat,UInt8.reduceOfNat] at h2)
   have c2:=h2
   (simp only [bsX] at c2)
   have hf:¬ WP c.ps 0 n:=by unfold WP;have:=c2;omega
   have hQ:Qg c.ps 0 n=Qh c.ps 0 n:=if_neg hf;have hE:Q5 c.ps 0 n=0:=if_neg hf;refine ⟨[0,1,3,7,0,31,63,127,127,255,1023],by kernel_rfl,?_⟩
   repeat refine o13 ?_
   refine clX (Jw (ns:=((psD c.ps n c.ps.length).getD 0 Qa).ns) (n:=n) (by omega) (hcd.ns 0)) ?_
   repeat refine o1 ?_
   refine ⟨[0,0,2,6,14,0,0,64,254,511,1023,2047],by kernel_rfl,?_⟩
   repeat refine o13 ?_
   refine clX (X3 (ns:=((psD c.ps n c.ps.length).getD 0 Qa).ns) (n:=n) hlb (by omega)) ?_
   repeat refine o31 ?_
   trivial
end
section
open Go.RowKit
theorem QoX {c:ConfS} {at_:List UInt8} {n:List Bool} (hc:PsOk c.ps) (ha:at_≠[]) (hi0:2 < c.ps.length) (hk:Qq c.ps at_=((2:Nat):Int)) (hn:n.length<=32):Cf Tryz.prog 116 [(0,bK c 1 c.ps.length),(1,rK c.ps.length (c.ps) nmK),(7000,dK (c.ps) 0),(7001,dK (c.ps) 1),(7002,dK (c.ps) 2),(7003,dK (c.ps) 3),(7004,dK (c.ps) 4),(7005,dK (c.ps) 5)] [.own 0 0,.s at_,We n] [(0,bK c 1 c.ps.length),(1,rK c.ps.length (Qg c.ps 2 n) [7000,7001,7100,7003,7004,7005]),(7000,dK (Qg c.ps 2 n) 0),(7001,dK (Qg c.ps 2 n) 1),(7100,dK (Qg c.ps 2 n) 2),(7003,dK (Qg c.ps 2 n) 3),(7004,dK (Qg c.ps 2 n) 4),(7005,dK (Qg c.ps 2 n) 5)] (.i (Q5 c.ps 2 n)):=by
 have hl6:=hc.len;refine QJ {} Tryz.func116 Tryz.ntmps116 ?_;refine ⟨Nat,fun i=>⟨[(0,.own 0 0),(1,.s at_),(5,.own 1005 0),(6,.i 0),(17,.i (c.ps.length:Int)),(18,.i (i:Int))],[(0,bK c 1 c.ps.length),(1,rK c.ps.length (psD c.ps n i) nmK),(7000,dK (psD c.ps n i) 0),(7001,dK (psD c.ps n i) 1),(7002,dK (psD c.ps n i) 2),(7003,dK (psD c.ps n i) 3),(7004,dK (psD c.ps n i) 4),(7005,dK (psD c.ps n i) 5),(1005,.row [.u32 (adr n),.i (n.length:Int)] 36 2 2)]⟩,fun i=>i<=c.ps.length,fun i=>c.ps.length - i,0,Qxo _,?_,fun i hx1=>?_⟩
 ·skip
  repeat refine o1 ?_
  trivial
 refine ⟨fun h1=>?_,fun h1=>?_⟩
 ·skip
  have c1:=h1
  (simp only [bsX] at c1)
  have hi:i < c.ps.length:=by omega
  rcases (by omega:i=0\/i=1\/i=2\/i=3\/i=4\/i=5) with rfl | rfl | rfl | rfl | rfl | rfl
  ·skip
   repeat refine o3 ?_
   refine clX (Qo (ns:=((psD c.ps n 0).getD 0 Qa).ns) (n:=n) (by have:=(hc.del n 0).nl 0;omega) ((hc.del n 0).nb 0)) ?_
   repeat refine o5 ?_
   refine Qt (0+1) ?_
   repeat refine o6 ?_
   trivial
  ·skip
   repeat refine o3 ?_
   refine clX (Qo (ns:=((psD c.ps n 1).getD 1 Qa).ns) (n:=n) (by have:=(hc.del n 1).nl 1;omega) ((hc.del n 1).nb 1)) ?_
   repeat refine o5 ?_
   refine Qt (1+1) ?_
   repeat refine o6 ?_
   trivial
  ·skip
   repeat refine o3 ?_
   refine clX (Qo (ns:=((psD c.ps n 2).getD 2 Qa).ns) (n:=n) (by have:=(hc.del n 2).nl 2;omega) ((hc.del n 2).nb 2)) ?_
   repeat refine o5 ?_
   refine Qt (2+1) ?_
   repeat refine o6 ?_
   trivial
  ·skip
   repeat refine o3 ?_
   refine clX (Qo (ns:=((psD c.ps n 3).getD 3 Qa).ns) (n:=n) (by have:=(hc.del n 3).nl 3;omega) ((hc.del n 3).nb 3)) ?_
   repeat refine o5 ?_
   refine Qt (3+1) ?_
   repeat refine o6 ?_
   trivial
  ·skip
   repeat refine o3 ?_
   refine clX (Qo (ns:=((psD c.ps n 4).getD 4 Qa).ns) (n:=n) (by have:=(hc.del n 4).nl 4;omega) ((hc.del n 4).nb 4)) ?_
   repeat refine o5 ?_
   refine Qt (4+1) ?_
   repeat refine o6 ?_
   trivial
  ·skip
   repeat refine o3 ?_
   refine clX (Qo (ns:=((psD c.ps n 5).getD 5 Qa).ns) (n:=n) (by have:=(hc.del n 5).nl 5;omega) ((hc.del n 5).nb 5)) ?_
   repeat refine o5 ?_
   refine Qt (5+1) ?_
   repeat refine o6 ?_
   trivial
 ·skip
  have c1:=h1
  (simp only [bsX] at c1)
  have hi:i=c.ps.length:=by omega
  subst hi;have hcd:=hc.del n c.ps.length;have hpe:=WD (c:=⟨c.k,c.port,psD c.ps n c.ps.length⟩) (at_:=at_) (i:=2) hcd.len ha (by rw [show (ConfS.mk c.k c.port (psD c.ps n c.ps.length)).ps.length=c.ps.length from Q2];exact hi0) ((Jx c.ps n c.ps.length at_).trans hk);have hpl:(psD c.ps n c.ps.length).length=c.ps.length:=Q2;have hlb:=J5 ((psD c.ps n c.ps.length).getD 2 Qa).ns n;have hl8:=hcd.nl 2;refine clX hpe ?_
  repeat refine o29 ?_
  refine ⟨fun h2=>?_,fun h2=>?_⟩
  ·skip
   (simp only [Int.reduceToNat,UInt8.reduceOfNat] at h2)
   have c2:=h2
   (simp only [bsX] at c2)
   have hf:WP c.ps 2 n:=by unfold WP;have:=c2;omega
   have hQ:Qg c.ps 2 n=psD c.ps n c.ps.length:=if_pos hf;have hE:Q5 c.ps 2 n=7:=if_pos hf
   repeat refine o30 ?_
   trivial
  ·skip
   (simp only [Int.reduceToNat,UInt8.reduceOfNat] at h2)
   have c2:=h2
   (simp only [bsX] at c2)
   have hf:¬ WP c.ps 2 n:=by unfold WP;have:=c2;omega
   have hQ:Qg c.ps 2 n=Qh c.ps 2 n:=if_neg hf;have hE:Q5 c.ps 2 n=0:=if_neg hf;refine ⟨[0,1,3,7,0,31,63,127,127,255,1023],by kernel_rfl,?_⟩
   repeat refine o13 ?_
   refine clX (Jw (ns:=((psD c.ps n c.ps.length).getD 2 Qa).ns) (n:=n) (by omega) (hcd.ns 2)) ?_
   repeat refine o1 ?_
   refine ⟨[0,0,2,6,14,0,0,64,254,511,1023,2047],by kernel_rfl,?_⟩
   repeat refine o13 ?_
   refine clX (X3 (ns:=((psD c.ps n c.ps.length).getD 2 Qa).ns) (n:=n) hlb (by omega)) ?_
   repeat refine o31 ?_
   trivial
end
section
open Go.RowKit
theorem Qo0 {c:ConfS} {at_:List UInt8} {n:List Bool} (hc:PsOk c.ps) (ha:at_≠[]) (hi0:5 < c.ps.length) (hk:Qq c.ps at_=((5:Nat):Int)) (hn:n.length<=32):Cf Tryz.prog 116 [(0,bK c 1 c.ps.length),(1,rK c.ps.length (c.ps) nmK),(7000,dK (c.ps) 0),(7001,dK (c.ps) 1),(7002,dK (c.ps) 2),(7003,dK (c.ps) 3),(7004,dK (c.ps) 4),(7005,dK (c.ps) 5)] [.own 0 0,.s at_,We n] [(0,bK c 1 c.ps.length),(1,rK c.ps.length (Qg c.ps 5 n) [7000,7001,7002,7003,7004,7100]),(7000,dK (Qg c.ps 5 n) 0),(7001,dK (Qg c.ps 5 n) 1),(7002,dK (Qg c.ps 5 n) 2),(7003,dK (Qg c.ps 5 n) 3),(7004,dK (Qg c.ps 5 n) 4),(7100,dK (Qg c.ps 5 n) 5)] (.i (Q5 c.ps 5 n)):=by
 have hl6:=hc.len;refine QJ {} Tryz.func116 Tryz.ntmps116 ?_;refine ⟨Nat,fun i=>⟨[(0,.own 0 0),(1,.s at_),(5,.own 1005 0),(6,.i 0),(17,.i (c.ps.length:Int)),(18,.i (i:Int))],[(0,bK c 1 c.ps.length),(1,rK c.ps.length (psD c.ps n i) nmK),(7000,dK (psD c.ps n i) 0),(7001,dK (psD c.ps n i) 1),(7002,dK (psD c.ps n i) 2),(7003,dK (psD c.ps n i) 3),(7004,dK (psD c.ps n i) 4),(7005,dK (psD c.ps n i) 5),(1005,.row [.u32 (adr n),.i (n.length:Int)] 36 2 2)]⟩,fun i=>i<=c.ps.length,fun i=>c.ps.length - i,0,Qxo _,?_,fun i hx1=>?_⟩
 ·skip
  repeat refine o1 ?_
  trivial
 refine ⟨fun h1=>?_,fun h1=>?_⟩
 ·skip
  have c1:=h1
  (simp only [bsX] at c1)
  have hi:i < c.ps.length:=by omega
  rcases (by omega:i=0\/i=1\/i=2\/i=3\/i=4\/i=5) with rfl | rfl | rfl | rfl | rfl | rfl
  ·skip
   repeat refine o3 ?_
   refine clX (Qo (ns:=((psD c.ps n 0).getD 0 Qa).ns) (n:=n) (by have:=(hc.del n 0).nl 0;omega) ((hc.del n 0).nb 0)) ?_
   repeat refine o5 ?_
   refine Qt (0+1) ?_
   repeat refine o6 ?_
   trivial
  ·skip
   repeat refine o3 ?_
   refine clX (Qo (ns:=((psD c.ps n 1).getD 1 Qa).ns) (n:=n) (by have:=(hc.del n 1).nl 1;omega) ((hc.del n 1).nb 1)) ?_
   repeat refine o5 ?_
   refine Qt (1+1) ?_
   repeat refine o6 ?_
   trivial
  ·skip
   repeat refine o3 ?_
   refine clX (Qo (ns:=((psD c.ps n 2).getD 2 Qa).ns) (n:=n) (by have:=(hc.del n 2).nl 2;omega) ((hc.del n 2).nb 2)) ?_
   repeat refine o5 ?_
   refine Qt (2+1) ?_
   repeat refine o6 ?_
   trivial
  ·skip
   repeat refine o3 ?_
   refine clX (Qo (ns:=((psD c.ps n 3).getD 3 Qa).ns) (n:=n) (by have:=(hc.del n 3).nl 3;omega) ((hc.del n 3).nb 3)) ?_
   repeat refine o5 ?_
   refine Qt (3+1) ?_
   repeat refine o6 ?_
   trivial
  ·skip
   repeat refine o3 ?_
   refine clX (Qo (ns:=((psD c.ps n 4).getD 4 Qa).ns) (n:=n) (by have:=(hc.del n 4).nl 4;omega) ((hc.del n 4).nb 4)) ?_
   repeat refine o5 ?_
   refine Qt (4+1) ?_
   repeat refine o6 ?_
   trivial
  ·skip
   repeat refine o3 ?_
   refine clX (Qo (ns:=((psD c.ps n 5).getD 5 Qa).ns) (n:=n) (by have:=(hc.del n 5).nl 5;omega) ((hc.del n 5).nb 5)) ?_
   repeat refine o5 ?_
   refine Qt (5+1) ?_
   repeat refine o6 ?_
   trivial
 ·skip
  have c1:=h1
  (simp only [bsX] at c1)
  have hi:i=c.ps.length:=by omega
  subst hi;have hcd:=hc.del n c.ps.length;have hpe:=WD (c:=⟨c.k,c.port,psD c.ps n c.ps.length⟩) (at_:=at_) (i:=5) hcd.len ha (by rw [show (ConfS.mk c.k c.port (psD c.ps n c.ps.length)).ps.length=c.ps.length from Q2];exact hi0) ((Jx c.ps n c.ps.length at_).trans hk);have hpl:(psD c.ps n c.ps.length).length=c.ps.length:=Q2;have hlb:=J5 ((psD c.ps n c.ps.length).getD 5 Qa).ns n;have hl8:=hcd.nl 5;refine clX hpe ?_
  repeat refine o29 ?_
  refine ⟨fun h2=>?_,fun h2=>?_⟩
  ·skip
   (simp only [Int.reduceToNat,UInt8.reduceOfNat] at h2)
   have c2:=h2
   (simp only [bsX] at c2)
   have hf:WP c.ps 5 n:=by unfold WP;have:=c2;omega
   have hQ:Qg c.ps 5 n=psD c.ps n c.ps.length:=if_pos hf;have hE:Q5 c.ps 5 n=7:=if_pos hf
   repeat refine o30 ?_
   trivial
  ·skip
   (simp only [Int.reduceToNat,UInt8.reduceOfNat] at h2)
   have c2:=h2
   (simp only [bsX] at c2)
   have hf:¬ WP c.ps 5 n:=by unfold WP;have:=c2;omega
   have hQ:Qg c.ps 5 n=Qh c.ps 5 n:=if_neg hf;have hE:Q5 c.ps 5 n=0:=if_neg hf;refine ⟨[0,1,3,7,0,31,63,127,127,255,1023],by kernel_rfl,?_⟩
   repeat refine o13 ?_
   refine clX (Jw (ns:=((psD c.ps n c.ps.length).getD 5 Qa).ns) (n:=n) (by omega) (hcd.ns 5)) ?_
   repeat refine o1 ?_
   refine ⟨[0,0,2,6,14,0,0,64,254,511,1023,2047],by kernel_rfl,?_⟩
   repeat refine o13 ?_
   refine clX (X3 (ns:=((psD c.ps n c.ps.length).getD 5 Qa).ns) (n:=n) hlb (by omega)) ?_
   repeat refine o31 ?_
   trivial
end
end Go.Proofs.YtcebndkiagbddaaGreatDoor
