/- A part of the proof: contracts of functions and what they stand on. Written shorter and merged by a program (pack.py). -/
import Derived.Test.YtcebndkiagbddaaGreatDoorK37
import Derived.Test.YtcebndkiagbddaaGreatDoorK36
set_option linter.unusedVariables false
set_option linter.unusedSimpArgs false
set_option maxRecDepth 100000
set_option maxHeartbeats 4000000
open List renaming length_cons -> Qxw
namespace Go.Proofs.YtcebndkiagbddaaGreatDoor
section
open Go.RowKit
theorem Qa0 {c:ConfS} {k:List UInt8} (hl:c.ps.length<=6) (hk:Qq c.ps k = -1):Cf Tryz.prog 82 [] [Qn c,.s k] [] (.tup [.i 0,.i 5]):=by
 have q:=QcI (c:=c) (k:=k) (by omega);rw [hk,if_pos (by decide),if_pos (by decide)] at q;exact q
theorem Qen {c:ConfS} {k:List UInt8} {i:Nat} (hl:c.ps.length<=6) (hk:Qq c.ps k=(i:Int)):Cf Tryz.prog 82 [] [Qn c,.s k] [] (.tup [.i (i:Int),.i 0]):=by
 have q:=QcI (c:=c) (k:=k) (by omega);rw [hk,if_neg (by omega),if_neg (by omega)] at q;exact q
theorem Qoo {c:ConfS} {t:List UInt8} (hl:c.ps.length<=6) (hk:Qq c.ps t = -1):Cf Tryz.prog 111 [(0,.box [.s c.k,.i c.port,.osl 1 c.ps.length] 25),(1,.rz (c.ps).length 5 (fun i j=>Qe ((c.ps).getD i Qa) j) 33 0)] [.own 0 0,.agg [.i 1,.s t,.i 0,.u32 0,.i 0]] [(0,.box [.s t,.i c.port,.osl 1 c.ps.length] 25),(1,.rz (c.ps).length 5 (fun i j=>Qe ((c.ps).getD i Qa) j) 33 0)] (.tup [.b true,.i 0]):=by
 refine QJ {bo:=[18]} Tryz.func111 Tryz.ntmps111 ?_;refine knT ?_;refine ⟨[0,1,3,0,8,31,63,127,127,255,1023],by kernel_rfl,?_⟩;refine clX (Qa0 (c:=c) hl hk) ?_
 repeat refine o2 ?_
 refine ⟨fun h2=>?_,fun h2=>?_⟩
 ·skip
  have c2:=h2
  (simp only [bsX] at c2)
  repeat refine o1 ?_
  trivial
 ·skip
  have c2:=h2
  (simp only [bsX] at c2)
  repeat refine o1 ?_
  trivial
theorem Qop {c:ConfS} {t:List UInt8} {i:Nat} (hl:c.ps.length<=6) (hk:Qq c.ps t=(i:Int)):Cf Tryz.prog 111 [(0,.box [.s c.k,.i c.port,.osl 1 c.ps.length] 25),(1,.rz (c.ps).length 5 (fun i j=>Qe ((c.ps).getD i Qa) j) 33 0)] [.own 0 0,.agg [.i 1,.s t,.i 0,.u32 0,.i 0]] [(0,.box [.s c.k,.i c.port,.osl 1 c.ps.length] 25),(1,.rz (c.ps).length 5 (fun i j=>Qe ((c.ps).getD i Qa) j) 33 0)] (.tup [.b true,.i 14]):=by
 refine QJ {bo:=[18]} Tryz.func111 Tryz.ntmps111 ?_;refine knT ?_;refine ⟨[0,1,3,0,8,31,63,127,127,255,1023],by kernel_rfl,?_⟩;refine clX (Qen (c:=c) hl hk) ?_
 repeat refine o2 ?_
 refine ⟨fun h2=>?_,fun h2=>?_⟩
 ·skip
  (simp only [Int.reduceToNat,UInt8.reduceOfNat] at h2)
  have c2:=h2
  (simp only [bsX] at c2)
  repeat refine o1 ?_
  trivial
 ·skip
  (simp only [Int.reduceToNat,UInt8.reduceOfNat] at h2)
  have c2:=h2
  (simp only [bsX] at c2)
  repeat (refine Ob.mk ?_ ?_;focus (first | (exact fun _ _ _ _=>rfl) | (exact Eq.refl _) | omega | (simp_all;done)))
  trivial
theorem Qoq {c:ConfS} {n:Int}:Cf Tryz.prog 111 [(0,.box [.s c.k,.i c.port,.osl 1 c.ps.length] 25),(1,.rz (c.ps).length 5 (fun i j=>Qe ((c.ps).getD i Qa) j) 33 0)] [.own 0 0,.agg [.i 2,.s [],.i n,.u32 0,.i 0]] [(0,.box [.s c.k,.i n,.osl 1 c.ps.length] 25),(1,.rz (c.ps).length 5 (fun i j=>Qe ((c.ps).getD i Qa) j) 33 0)] (.tup [.b true,.i 0]):=by
 refine QJ {} Tryz.func111 Tryz.ntmps111 ?_;refine knF (knT ?_)
 repeat refine o1 ?_
 trivial
theorem QuL {c:ConfS}:Cf Tryz.prog 111 [(0,.box [.s c.k,.i c.port,.osl 1 c.ps.length] 25),(1,.rz (c.ps).length 5 (fun i j=>Qe ((c.ps).getD i Qa) j) 33 0)] [.own 0 0,.agg [.i 3,.s [],.i 0,.u32 0,.i 0]] [(0,.box [.s c.k,.i c.port,.nil] 25)] (.tup [.b true,.i 0]):=by
 refine QJ {} Tryz.func111 Tryz.ntmps111 ?_;refine knF (knF (knT ?_))
 repeat refine o0 ?_
 trivial
theorem WV {c:ConfS} {k n b:Int} {t:List UInt8} {a:UInt32} (hk:4<=k):Cf Tryz.prog 111 [(0,.box [.s c.k,.i c.port,.osl 1 c.ps.length] 25),(1,.rz (c.ps).length 5 (fun i j=>Qe ((c.ps).getD i Qa) j) 33 0)] [.own 0 0,.agg [.i k,.s t,.i n,.u32 a,.i b]] [(0,.box [.s c.k,.i c.port,.osl 1 c.ps.length] 25),(1,.rz (c.ps).length 5 (fun i j=>Qe ((c.ps).getD i Qa) j) 33 0)] (.tup [.b false,.i 0]):=by
 refine QJ {} Tryz.func111 Tryz.ntmps111 ?_;refine ⟨fun h1=>?_,fun h1=>?_⟩
 ·skip
  have c1:=h1
  (simp only [bsX] at c1)
  exact absurd c1 (by omega)
 ·skip
  have c1:=h1
  (simp only [bsX] at c1)
  refine ⟨fun h2=>?_,fun h2=>?_⟩
  ·skip
   have c2:=h2
   (simp only [bsX] at c2)
   exact absurd c2 (by omega)
  ·skip
   have c2:=h2
   (simp only [bsX] at c2)
   refine ⟨fun h3=>?_,fun h3=>?_⟩
   ·skip
    have c3:=h3
    (simp only [bsX] at c3)
    exact absurd c3 (by omega)
   ·skip
    have c3:=h3
    (simp only [bsX] at c3)
    repeat refine o1 ?_
    trivial
theorem X5 {c:ConfS} {at_:List UInt8} {i:Nat} (hl:c.ps.length<=6) (ha:at_≠[]) (hi:i < c.ps.length) (hk:Qq c.ps at_=(i:Int)):Cf Tryz.prog 113 [(0,.box [.s c.k,.i c.port,.osl 1 c.ps.length] 25),(1,.rz (c.ps).length 5 (fun i j=>Qe ((c.ps).getD i Qa) j) 33 0)] [.own 0 0,.s at_] [(0,.box [.s c.k,.i c.port,.osl 1 c.ps.length] 25),(1,.rz (c.ps).length 5 (fun i j=>Qe ((c.ps).getD i Qa) j) 33 0)] (.tup [.po 1 5 i 0,.i 0]):=by
 refine Qr {bo:=[13]} Tryz.func113 Tryz.ntmps113 ?_;refine clX (Qen (c:=c) hl hk) ?_
 repeat refine o81 ?_
 refine ⟨fun h1=>?_,fun h1=>?_⟩
 ·skip
  (simp only [Int.reduceToNat,UInt8.reduceOfNat] at h1)
  have c1:=h1
  (simp only [bsX] at c1)
  exact absurd c1 (by simp [ha])
 ·skip
  (simp only [Int.reduceToNat,UInt8.reduceOfNat] at h1)
  have c1:=h1
  (simp only [bsX] at c1)
  repeat refine o1 ?_
  trivial
theorem Qor {c:ConfS} {at_:List UInt8} (hl:c.ps.length<=6) (hk:Qq c.ps at_ = -1):Cf Tryz.prog 113 [(0,.box [.s c.k,.i c.port,.osl 1 c.ps.length] 25),(1,.rz (c.ps).length 5 (fun i j=>Qe ((c.ps).getD i Qa) j) 33 0)] [.own 0 0,.s at_] [(0,.box [.s c.k,.i c.port,.osl 1 c.ps.length] 25),(1,.rz (c.ps).length 5 (fun i j=>Qe ((c.ps).getD i Qa) j) 33 0)] (.tup [.v (.pointer none),.i 13]):=by
 refine Qr {bo:=[13]} Tryz.func113 Tryz.ntmps113 ?_;refine clX (Qa0 (c:=c) hl hk) ?_
 repeat refine o81 ?_
 refine ⟨fun h1=>?_,fun h1=>?_⟩
 ·skip
  have c1:=h1
  (simp only [bsX] at c1)
  repeat refine o1 ?_
  trivial
 ·skip
  have c1:=h1
  (simp only [bsX] at c1)
  exact absurd (c1).2 (by decide)
theorem Qos {c:ConfS} (hl:c.ps.length<=6):Cf Tryz.prog 113 [(0,.box [.s c.k,.i c.port,.osl 1 c.ps.length] 25),(1,.rz (c.ps).length 5 (fun i j=>Qe ((c.ps).getD i Qa) j) 33 0)] [.own 0 0,.s []] [(0,.box [.s c.k,.i c.port,.osl 1 c.ps.length] 25),(1,.rz (c.ps).length 5 (fun i j=>Qe ((c.ps).getD i Qa) j) 33 0)] (.tup [.v (.pointer none),.i 13]):=by
 refine Qr {bo:=[13]} Tryz.func113 Tryz.ntmps113 ?_;refine clX (QcI (c:=c) (k:=[]) (by omega)) ?_
 repeat (refine Ob.mk ?_ ?_;focus (first | (exact fun _ _ _ _=>rfl) | (exact Eq.refl _) | (exact fun hg=>ZQ hg) | (exact fun hg=>Yz hg)))
 refine ⟨fun h1=>?_,fun h1=>?_⟩
 ·skip
  (simp only [Int.reduceToNat,UInt8.reduceOfNat] at h1)
  have c1:=h1
  (simp only [bsX] at c1)
  repeat refine o1 ?_
  trivial
 ·skip
  (simp only [Int.reduceToNat,UInt8.reduceOfNat] at h1)
  have c1:=h1
  (simp only [bsX] at c1)
  exact absurd trivial (c1).1
end
section
open Go.RowKit
theorem QoZ {c:ConfS} {at_:List UInt8} {n:List Bool} (hc:PsOk c.ps) (ha:at_≠[]) (hi0:4 < c.ps.length) (hk:Qq c.ps at_=((4:Nat):Int)) (hn:n.length<=32):Cf Tryz.prog 116 [(0,bK c 1 c.ps.length),(1,rK c.ps.length (c.ps) nmK),(7000,dK (c.ps) 0),(7001,dK (c.ps) 1),(7002,dK (c.ps) 2),(7003,dK (c.ps) 3),(7004,dK (c.ps) 4),(7005,dK (c.ps) 5)] [.own 0 0,.s at_,We n] [(0,bK c 1 c.ps.length),(1,rK c.ps.length (Qg c.ps 4 n) [7000,7001,7002,7003,7100,7005]),(7000,dK (Qg c.ps 4 n) 0),(7001,dK (Qg c.ps 4 n) 1),(7002,dK (Qg c.ps 4 n) 2),(7003,dK (Qg c.ps 4 n) 3),(7100,dK (Qg c.ps 4 n) 4),(7005,dK (Qg c.ps 4 n) 5)] (.i (Q5 c.ps 4 n)):=by
 have hl6:=hc.len;refine QJ {} Tryz.func116 Tryz.ntmps116 ?_;refine ⟨Nat,fun i=>⟨[(0,.own 0 0),(1,.s at_),(5,.own 1005 0),(6,.i 0),(17,.i (c.ps.length:Int)),(18,.i (i:Int))],[(0,bK c 1 c.ps.length),(1,rK c.ps.length (psD c.ps n i) nmK),(7000,dK (psD c.ps n i) 0),(7001,dK (psD c.ps n i) 1),(7002,dK (psD c.ps n i) 2),(7003,dK (psD c.ps n i) 3),(7004,dK (psD c.ps n i) 4),(7005,dK (psD c.ps n i) 5),(1005,.row [.u32 (adr n),.i (n.length:Int)] 36 2 2)]⟩,fun i=>i<=c.ps.length,fun i=>c.ps.length - i,0,Nat.zero_le _,?_,fun i hx1=>?_⟩
 ·skip
  repeat refine o1 ?_
  trivial
 refine ⟨fun h1=>?_,fun h1=>?_⟩
 ·skip
  have c1:=h1
  (simp only [bsX] at c1)
  have hi:i < c.ps.length:=by omega
  rcases (by omega:i=0\/i=1\/i=2\/i=3\/i=4\/i=5) with rfl | rfl | rfl | rfl | rfl | rfl
  ·skip
   repeat refine o3 ?_
   refine clX (Qo (ns:=((psD c.ps n 0).getD 0 Qa).ns) (n:=n) (by have:=(hc.del n 0).nl 0;omega) ((hc.del n 0).nb 0)) ?_
   repeat refine o5 ?_
   refine Qt (0+1) ?_
   repeat refine o6 ?_
   trivial
  ·skip
   repeat refine o3 ?_
   refine clX (Qo (ns:=((psD c.ps n 1).getD 1 Qa).ns) (n:=n) (by have:=(hc.del n 1).nl 1;omega) ((hc.del n 1).nb 1)) ?_
   repeat refine o5 ?_
   refine Qt (1+1) ?_
   repeat refine o6 ?_
   trivial
  ·skip
   repeat refine o3 ?_
   refine clX (Qo (ns:=((psD c.ps n 2).getD 2 Qa).ns) (n:=n) (by have:=(hc.del n 2).nl 2;omega) ((hc.del n 2).nb 2)) ?_
   repeat refine o5 ?_
   refine Qt (2+1) ?_
   repeat refine o6 ?_
   trivial
  ·skip
   repeat refine o3 ?_
   refine clX (Qo (ns:=((psD c.ps n 3).getD 3 Qa).ns) (n:=n) (by have:=(hc.del n 3).nl 3;omega) ((hc.del n 3).nb 3)) ?_
   repeat refine o5 ?_
   refine Qt (3+1) ?_
   repeat refine o6 ?_
   trivial
  ·skip
   repeat refine o3 ?_
   refine clX (Qo (ns:=((psD c.ps n 4).getD 4 Qa).ns) (n:=n) (by have:=(hc.del n 4).nl 4;omega) ((hc.del n 4).nb 4)) ?_
   repeat refine o5 ?_
   refine Qt (4+1) ?_
   repeat refine o6 ?_
   trivial
  ·skip
   repeat refine o3 ?_
   refine clX (Qo (ns:=((psD c.ps n 5).getD 5 Qa).ns) (n:=n) (by have:=(hc.del n 5).nl 5;omega) ((hc.del n 5).nb 5)) ?_
   repeat refine o5 ?_
   refine Qt (5+1) ?_
   repeat refine o6 ?_
   trivial
 ·skip
  have c1:=h1
  (simp only [bsX] at c1)
  have hi:i=c.ps.length:=by omega
  subst hi;have hcd:=hc.del n c.ps.length;have hpe:=WD (c:=⟨c.k,c.port,psD c.ps n c.ps.length⟩) (at_:=at_) (i:=4) hcd.len ha (by rw [show (ConfS.mk c.k c.port (psD c.ps n c.ps.length)).ps.length=c.ps.length from Q2];exact hi0) ((Jx c.ps n c.ps.length at_).trans hk);have hpl:(psD c.ps n c.ps.length).length=c.ps.length:=Q2;have hlb:=J5 ((psD c.ps n c.ps.length).getD 4 Qa).ns n;have hl8:=hcd.nl 4;refine clX hpe ?_
  repeat refine o29 ?_
  refine ⟨fun h2=>?_,fun h2=>?_⟩
  ·skip
   (simp only [Int.reduceToNat,UInt8.reduceOfNat] at h2)
   have c2:=h2
   (simp only [bsX] at c2)
   have hf:WP c.ps 4 n:=by unfold WP;have:=c2;omega
   have hQ:Qg c.ps 4 n=psD c.ps n c.ps.length:=if_pos hf;have hE:Q5 c.ps 4 n=7:=if_pos hf
   repeat refine o30 ?_
   trivial
  ·skip
   (simp only [Int.reduceToNat,UInt8.reduceOfNat] at h2)
   have c2:=h2
   (simp only [bsX] at c2)
   have hf:¬ WP c.ps 4 n:=by unfold WP;have:=c2;omega
   have hQ:Qg c.ps 4 n=Qh c.ps 4 n:=if_neg hf;have hE:Q5 c.ps 4 n=0:=if_neg hf;refine ⟨[0,1,3,7,0,31,63,127,127,255,1023],by kernel_rfl,?_⟩
   repeat refine o13 ?_
   refine clX (Jw (ns:=((psD c.ps n c.ps.length).getD 4 Qa).ns) (n:=n) (by omega) (hcd.ns 4)) ?_
   repeat refine o1 ?_
   refine ⟨[0,0,2,6,14,0,0,64,254,511,1023,2047],by kernel_rfl,?_⟩
   repeat refine o13 ?_
   refine clX (X3 (ns:=((psD c.ps n c.ps.length).getD 4 Qa).ns) (n:=n) hlb (by omega)) ?_
   repeat refine o31 ?_
   trivial
end
end Go.Proofs.YtcebndkiagbddaaGreatDoor
