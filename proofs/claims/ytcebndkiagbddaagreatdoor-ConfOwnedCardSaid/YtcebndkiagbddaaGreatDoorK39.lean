/- A part of the proof: contracts of functions and what they stand on. Written shorter and merged by a program (pack.py). -/
import Derived.Test.YtcebndkiagbddaaGreatDoorK36
set_option linter.unusedVariables false
set_option linter.unusedSimpArgs false
set_option maxRecDepth 100000
set_option maxHeartbeats 4000000
open List renaming length_cons -> Qxw
namespace Go.Proofs.YtcebndkiagbddaaGreatDoor
section
open Tr
def Wu:Tr->List Bool->Tr
 | .nil,_=>.nil
 | .node p o l r,n=>if p≠n/\p <+: n then bif QB n p.length then Wu r n else Wu l n else .node p o l r
def Qco (T:Tr) (n:List Bool):List UInt8×Int:=match Wu T n with
 | .nil=>([],5)
 | .node p o _ _=>if p=n/\o≠[] then (o,0) else ([],5)
theorem Yd {p n o l r} (h1:p≠n) (h2:p <+: n) {b:Bool} (hb:QB n p.length=b):Wu (.node p o l r) n=bif b then Wu r n else Wu l n:=by
 rw [Wu,if_pos ⟨h1,h2⟩,hb]
theorem QaV {p n o l r} (h:¬ (p≠n/\p <+: n)):Wu (.node p o l r) n=.node p o l r:=by
 rw [Wu,if_neg h]
theorem QiJ {T:Tr} {n} (h:Wu T n=.nil):Qco T n=([],5):=by unfold Qco;rw [h]
theorem Quh {T:Tr} {n p o l r} (h:Wu T n=.node p o l r) (h2:¬ (p=n/\o≠[])):Qco T n=([],5):=by unfold Qco;rw [h];exact if_neg h2
theorem QiK {T:Tr} {n o l r} (h:Wu T n=.node n o l r) (h2:o≠[]):Qco T n=(o,0):=by unfold Qco;rw [h];exact if_pos ⟨rfl,h2⟩
theorem QdY:∀ {T:Tr} {n y},T.wf->(T.has n y↔(Wu T n).has n y)
 | .nil,n,y,_=>Iff.rfl
 | .node p o l r,n,y,w=>by
  have W:=w;obtain ⟨hp,ul,ur,hx,wl,wr⟩:=w;by_cases h:p≠n/\p <+: n
  ·have b:=Ym h.2 h.1;rw [Yd h.1 h.2 rfl];cases hb:QB n p.length <;> rw [hb] at b
   ·show _↔(Wu l n).has n y;rw [<- QdY wl];constructor
    ·rintro (⟨k,_⟩ | k | k)
     ·exact absurd k.symm h.1
     ·exact k
     ·have:=XV (Zf wr ur k) b;cases this
    ·exact fun k=>.inr (.inl k)
   ·show _↔(Wu r n).has n y;rw [<- QdY wr];constructor
    ·rintro (⟨k,_⟩ | k | k)
     ·exact absurd k.symm h.1
     ·have:=XV (Zf wl ul k) b;cases this
     ·exact k
    ·exact fun k=>.inr (.inr k)
  ·rw [QaV h]
theorem QgK:∀ {T:Tr} {n},T.wf->(Wu T n).wf
 | .nil,n,_=>trivial
 | .node p o l r,n,w=>by
  by_cases h:p≠n/\p <+: n
  ·rw [Yd h.1 h.2 rfl];cases QB n p.length
   ·exact QgK w.2.2.2.2.1
   ·exact QgK w.2.2.2.2.2
  ·rw [QaV h];exact w
theorem QdZ:∀ {T:Tr} {n p o l r},Wu T n=.node p o l r->¬ (p≠n/\p <+: n)
 | .nil,n,p,o,l,r,h=>by cases h
 | .node p' o' l' r',n,p,o,l,r,h=>by
  by_cases k:p'≠n/\p' <+: n
  ·rw [Yd k.1 k.2 rfl] at h;cases hb:QB n p'.length <;> rw [hb] at h
   ·exact QdZ (T:=l') h
   ·exact QdZ (T:=r') h
  ·rw [QaV k] at h;cases h;exact k
theorem QqK {T:Tr} {n y} (w:T.wf) (h:T.has n y):∃ l r,Wu T n=.node n y l r/\y≠[]:=by
 have k:=(QdY w).1 h
 cases hs:Wu T n with
 | nil=>rw [hs] at k;exact k.elim
 | node p o l r =>
  rw [hs] at k;have ws:=QgK (n:=n) w;rw [hs] at ws;have nt:=QdZ hs;rcases k with ⟨rfl,rfl,k⟩ | k | k
  ·exact ⟨l,r,rfl,k⟩
  ·have:=Zf ws.2.2.2.2.1 ws.2.1 k;exact absurd ⟨Xv this,YZ this⟩ nt
  ·have:=Zf ws.2.2.2.2.2 ws.2.2.1 k;exact absurd ⟨Xv this,YZ this⟩ nt
theorem Qwu {T:Tr} {n y} (w:T.wf) (h:T.has n y):Qco T n=(y,0):=by
 obtain ⟨l,r,e,k⟩:=QqK w h;exact QiK e k
end
section
open Go.RowKit
theorem Yh {c:ConfS} {k n b:Int} {t:List UInt8} {a:UInt32} (hk:4<=k):Cf Tryz.prog 111 [(0,bK c 1 c.ps.length),(1,rK c.ps.length (c.ps) nmK),(7000,dK (c.ps) 0),(7001,dK (c.ps) 1),(7002,dK (c.ps) 2),(7003,dK (c.ps) 3),(7004,dK (c.ps) 4),(7005,dK (c.ps) 5)] [.own 0 0,.agg [.i k,.s t,.i n,.u32 a,.i b]] [(0,bK c 1 c.ps.length),(1,rK c.ps.length (c.ps) nmK),(7000,dK (c.ps) 0),(7001,dK (c.ps) 1),(7002,dK (c.ps) 2),(7003,dK (c.ps) 3),(7004,dK (c.ps) 4),(7005,dK (c.ps) 5)] (.tup [.b false,.i 0]):=by
 refine QJ {} Tryz.func111 Tryz.ntmps111 ?_;refine ⟨fun h1=>?_,fun h1=>?_⟩
 ·skip
  have c1:=h1
  (simp only [bsX] at c1)
  exact absurd c1 (by omega)
 ·skip
  have c1:=h1
  (simp only [bsX] at c1)
  refine ⟨fun h2=>?_,fun h2=>?_⟩
  ·skip
   have c2:=h2
   (simp only [bsX] at c2)
   exact absurd c2 (by omega)
  ·skip
   have c2:=h2
   (simp only [bsX] at c2)
   refine ⟨fun h3=>?_,fun h3=>?_⟩
   ·skip
    have c3:=h3
    (simp only [bsX] at c3)
    exact absurd c3 (by omega)
   ·skip
    have c3:=h3
    (simp only [bsX] at c3)
    repeat refine o1 ?_
    trivial
end
section
open Go.RowKit
theorem QoW {c:ConfS} {at_:List UInt8} {n:List Bool} (hc:PsOk c.ps) (ha:at_≠[]) (hi0:1 < c.ps.length) (hk:Qq c.ps at_=((1:Nat):Int)) (hn:n.length<=32):Cf Tryz.prog 116 [(0,bK c 1 c.ps.length),(1,rK c.ps.length (c.ps) nmK),(7000,dK (c.ps) 0),(7001,dK (c.ps) 1),(7002,dK (c.ps) 2),(7003,dK (c.ps) 3),(7004,dK (c.ps) 4),(7005,dK (c.ps) 5)] [.own 0 0,.s at_,We n] [(0,bK c 1 c.ps.length),(1,rK c.ps.length (Qg c.ps 1 n) [7000,7100,7002,7003,7004,7005]),(7000,dK (Qg c.ps 1 n) 0),(7100,dK (Qg c.ps 1 n) 1),(7002,dK (Qg c.ps 1 n) 2),(7003,dK (Qg c.ps 1 n) 3),(7004,dK (Qg c.ps 1 n) 4),(7005,dK (Qg c.ps 1 n) 5)] (.i (Q5 c.ps 1 n)):=by
 have hl6:=hc.len;refine QJ {} Tryz.func116 Tryz.ntmps116 ?_;refine ⟨Nat,fun i=>⟨[(0,.own 0 0),(1,.s at_),(5,.own 1005 0),(6,.i 0),(17,.i (c.ps.length:Int)),(18,.i (i:Int))],[(0,bK c 1 c.ps.length),(1,rK c.ps.length (psD c.ps n i) nmK),(7000,dK (psD c.ps n i) 0),(7001,dK (psD c.ps n i) 1),(7002,dK (psD c.ps n i) 2),(7003,dK (psD c.ps n i) 3),(7004,dK (psD c.ps n i) 4),(7005,dK (psD c.ps n i) 5),(1005,.row [.u32 (adr n),.i (n.length:Int)] 36 2 2)]⟩,fun i=>i<=c.ps.length,fun i=>c.ps.length - i,0,Nat.zero_le _,?_,fun i hx1=>?_⟩
 ·skip
  repeat refine o1 ?_
  trivial
 refine ⟨fun h1=>?_,fun h1=>?_⟩
 ·skip
  have c1:=h1
  (simp only [bsX] at c1)
  have hi:i < c.ps.length:=by omega
  rcases (by omega:i=0\/i=1\/i=2\/i=3\/i=4\/i=5) with rfl | rfl | rfl | rfl | rfl | rfl
  ·skip
   repeat refine o3 ?_
   refine clX (Qo (ns:=((psD c.ps n 0).getD 0 Qa).ns) (n:=n) (by have:=(hc.del n 0).nl 0;omega) ((hc.del n 0).nb 0)) ?_
   repeat refine o5 ?_
   refine Qt (0+1) ?_
   repeat refine o6 ?_
   trivial
  ·skip
   repeat refine o3 ?_
   refine clX (Qo (ns:=((psD c.ps n 1).getD 1 Qa).ns) (n:=n) (by have:=(hc.del n 1).nl 1;omega) ((hc.del n 1).nb 1)) ?_
   repeat refine o5 ?_
   refine Qt (1+1) ?_
   repeat refine o6 ?_
   trivial
  ·skip
   repeat refine o3 ?_
   refine clX (Qo (ns:=((psD c.ps n 2).getD 2 Qa).ns) (n:=n) (by have:=(hc.del n 2).nl 2;omega) ((hc.del n 2).nb 2)) ?_
   repeat refine o5 ?_
   refine Qt (2+1) ?_
   repeat refine o6 ?_
   trivial
  ·skip
   repeat refine o3 ?_
   refine clX (Qo (ns:=((psD c.ps n 3).getD 3 Qa).ns) (n:=n) (by have:=(hc.del n 3).nl 3;omega) ((hc.del n 3).nb 3)) ?_
   repeat refine o5 ?_
   refine Qt (3+1) ?_
   repeat refine o6 ?_
   trivial
  ·skip
   repeat refine o3 ?_
   refine clX (Qo (ns:=((psD c.ps n 4).getD 4 Qa).ns) (n:=n) (by have:=(hc.del n 4).nl 4;omega) ((hc.del n 4).nb 4)) ?_
   repeat refine o5 ?_
   refine Qt (4+1) ?_
   repeat refine o6 ?_
   trivial
  ·skip
   repeat refine o3 ?_
   refine clX (Qo (ns:=((psD c.ps n 5).getD 5 Qa).ns) (n:=n) (by have:=(hc.del n 5).nl 5;omega) ((hc.del n 5).nb 5)) ?_
   repeat refine o5 ?_
   refine Qt (5+1) ?_
   repeat refine o6 ?_
   trivial
 ·skip
  have c1:=h1
  (simp only [bsX] at c1)
  have hi:i=c.ps.length:=by omega
  subst hi;have hcd:=hc.del n c.ps.length;have hpe:=WD (c:=⟨c.k,c.port,psD c.ps n c.ps.length⟩) (at_:=at_) (i:=1) hcd.len ha (by rw [show (ConfS.mk c.k c.port (psD c.ps n c.ps.length)).ps.length=c.ps.length from Q2];exact hi0) ((Jx c.ps n c.ps.length at_).trans hk);have hpl:(psD c.ps n c.ps.length).length=c.ps.length:=Q2;have hlb:=J5 ((psD c.ps n c.ps.length).getD 1 Qa).ns n;have hl8:=hcd.nl 1;refine clX hpe ?_
  repeat refine o29 ?_
  refine ⟨fun h2=>?_,fun h2=>?_⟩
  ·skip
   (simp only [Int.reduceToNat,UInt8.reduceOfNat] at h2)
   have c2:=h2
   (simp only [bsX] at c2)
   have hf:WP c.ps 1 n:=by unfold WP;have:=c2;omega
   have hQ:Qg c.ps 1 n=psD c.ps n c.ps.length:=if_pos hf;have hE:Q5 c.ps 1 n=7:=if_pos hf
   repeat refine o30 ?_
   trivial
  ·skip
   (simp only [Int.reduceToNat,UInt8.reduceOfNat] at h2)
   have c2:=h2
   (simp only [bsX] at c2)
   have hf:¬ WP c.ps 1 n:=by unfold WP;have:=c2;omega
   have hQ:Qg c.ps 1 n=Qh c.ps 1 n:=if_neg hf;have hE:Q5 c.ps 1 n=0:=if_neg hf;refine ⟨[0,1,3,7,0,31,63,127,127,255,1023],by kernel_rfl,?_⟩
   repeat refine o13 ?_
   refine clX (Jw (ns:=((psD c.ps n c.ps.length).getD 1 Qa).ns) (n:=n) (by omega) (hcd.ns 1)) ?_
   repeat refine o1 ?_
   refine ⟨[0,0,2,6,14,0,0,64,254,511,1023,2047],by kernel_rfl,?_⟩
   repeat refine o13 ?_
   refine clX (X3 (ns:=((psD c.ps n c.ps.length).getD 1 Qa).ns) (n:=n) hlb (by omega)) ?_
   repeat refine o31 ?_
   trivial
end
section
open Go.RowKit
theorem QoY {c:ConfS} {at_:List UInt8} {n:List Bool} (hc:PsOk c.ps) (ha:at_≠[]) (hi0:3 < c.ps.length) (hk:Qq c.ps at_=((3:Nat):Int)) (hn:n.length<=32):Cf Tryz.prog 116 [(0,bK c 1 c.ps.length),(1,rK c.ps.length (c.ps) nmK),(7000,dK (c.ps) 0),(7001,dK (c.ps) 1),(7002,dK (c.ps) 2),(7003,dK (c.ps) 3),(7004,dK (c.ps) 4),(7005,dK (c.ps) 5)] [.own 0 0,.s at_,We n] [(0,bK c 1 c.ps.length),(1,rK c.ps.length (Qg c.ps 3 n) [7000,7001,7002,7100,7004,7005]),(7000,dK (Qg c.ps 3 n) 0),(7001,dK (Qg c.ps 3 n) 1),(7002,dK (Qg c.ps 3 n) 2),(7100,dK (Qg c.ps 3 n) 3),(7004,dK (Qg c.ps 3 n) 4),(7005,dK (Qg c.ps 3 n) 5)] (.i (Q5 c.ps 3 n)):=by
 have hl6:=hc.len;refine QJ {} Tryz.func116 Tryz.ntmps116 ?_;refine ⟨Nat,fun i=>⟨[(0,.own 0 0),(1,.s at_),(5,.own 1005 0),(6,.i 0),(17,.i (c.ps.length:Int)),(18,.i (i:Int))],[(0,bK c 1 c.ps.length),(1,rK c.ps.length (psD c.ps n i) nmK),(7000,dK (psD c.ps n i) 0),(7001,dK (psD c.ps n i) 1),(7002,dK (psD c.ps n i) 2),(7003,dK (psD c.ps n i) 3),(7004,dK (psD c.ps n i) 4),(7005,dK (psD c.ps n i) 5),(1005,.row [.u32 (adr n),.i (n.length:Int)] 36 2 2)]⟩,fun i=>i<=c.ps.length,fun i=>c.ps.length - i,0,Nat.zero_le _,?_,fun i hx1=>?_⟩
 ·skip
  repeat refine o1 ?_
  trivial
 refine ⟨fun h1=>?_,fun h1=>?_⟩
 ·skip
  have c1:=h1
  (simp only [bsX] at c1)
  have hi:i < c.ps.length:=by omega
  rcases (by omega:i=0\/i=1\/i=2\/i=3\/i=4\/i=5) with rfl | rfl | rfl | rfl | rfl | rfl
  ·skip
   repeat refine o3 ?_
   refine clX (Qo (ns:=((psD c.ps n 0).getD 0 Qa).ns) (n:=n) (by have:=(hc.del n 0).nl 0;omega) ((hc.del n 0).nb 0)) ?_
   repeat refine o5 ?_
   refine Qt (0+1) ?_
   repeat refine o6 ?_
   trivial
  ·skip
   repeat refine o3 ?_
   refine clX (Qo (ns:=((psD c.ps n 1).getD 1 Qa).ns) (n:=n) (by have:=(hc.del n 1).nl 1;omega) ((hc.del n 1).nb 1)) ?_
   repeat refine o5 ?_
   refine Qt (1+1) ?_
   repeat refine o6 ?_
   trivial
  ·skip
   repeat refine o3 ?_
   refine clX (Qo (ns:=((psD c.ps n 2).getD 2 Qa).ns) (n:=n) (by have:=(hc.del n 2).nl 2;omega) ((hc.del n 2).nb 2)) ?_
   repeat refine o5 ?_
   refine Qt (2+1) ?_
   repeat refine o6 ?_
   trivial
  ·skip
   repeat refine o3 ?_
   refine clX (Qo (ns:=((psD c.ps n 3).getD 3 Qa).ns) (n:=n) (by have:=(hc.del n 3).nl 3;omega) ((hc.del n 3).nb 3)) ?_
   repeat refine o5 ?_
   refine Qt (3+1) ?_
   repeat refine o6 ?_
   trivial
  ·skip
   repeat refine o3 ?_
   refine clX (Qo (ns:=((psD c.ps n 4).getD 4 Qa).ns) (n:=n) (by have:=(hc.del n 4).nl 4;omega) ((hc.del n 4).nb 4)) ?_
   repeat refine o5 ?_
   refine Qt (4+1) ?_
   repeat refine o6 ?_
   trivial
  ·skip
   repeat refine o3 ?_
   refine clX (Qo (ns:=((psD c.ps n 5).getD 5 Qa).ns) (n:=n) (by have:=(hc.del n 5).nl 5;omega) ((hc.del n 5).nb 5)) ?_
   repeat refine o5 ?_
   refine Qt (5+1) ?_
   repeat refine o6 ?_
   trivial
 ·skip
  have c1:=h1
  (simp only [bsX] at c1)
  have hi:i=c.ps.length:=by omega
  subst hi;have hcd:=hc.del n c.ps.length;have hpe:=WD (c:=⟨c.k,c.port,psD c.ps n c.ps.length⟩) (at_:=at_) (i:=3) hcd.len ha (by rw [show (ConfS.mk c.k c.port (psD c.ps n c.ps.length)).ps.length=c.ps.length from Q2];exact hi0) ((Jx c.ps n c.ps.length at_).trans hk);have hpl:(psD c.ps n c.ps.length).length=c.ps.length:=Q2;have hlb:=J5 ((psD c.ps n c.ps.length).getD 3 Qa).ns n;have hl8:=hcd.nl 3;refine clX hpe ?_
  repeat refine o29 ?_
  refine ⟨fun h2=>?_,fun h2=>?_⟩
  ·skip
   (simp only [Int.reduceToNat,UInt8.reduceOfNat] at h2)
   have c2:=h2
   (simp only [bsX] at c2)
   have hf:WP c.ps 3 n:=by unfold WP;have:=c2;omega
   have hQ:Qg c.ps 3 n=psD c.ps n c.ps.length:=if_pos hf;have hE:Q5 c.ps 3 n=7:=if_pos hf
   repeat refine o30 ?_
   trivial
  ·skip
   (simp only [Int.reduceToNat,UInt8.reduceOfNat] at h2)
   have c2:=h2
   (simp only [bsX] at c2)
   have hf:¬ WP c.ps 3 n:=by unfold WP;have:=c2;omega
   have hQ:Qg c.ps 3 n=Qh c.ps 3 n:=if_neg hf;have hE:Q5 c.ps 3 n=0:=if_neg hf;refine ⟨[0,1,3,7,0,31,63,127,127,255,1023],by kernel_rfl,?_⟩
   repeat refine o13 ?_
   refine clX (Jw (ns:=((psD c.ps n c.ps.length).getD 3 Qa).ns) (n:=n) (by omega) (hcd.ns 3)) ?_
   repeat refine o1 ?_
   refine ⟨[0,0,2,6,14,0,0,64,254,511,1023,2047],by kernel_rfl,?_⟩
   repeat refine o13 ?_
   refine clX (X3 (ns:=((psD c.ps n c.ps.length).getD 3 Qa).ns) (n:=n) hlb (by omega)) ?_
   repeat refine o31 ?_
   trivial
end
end Go.Proofs.YtcebndkiagbddaaGreatDoor
