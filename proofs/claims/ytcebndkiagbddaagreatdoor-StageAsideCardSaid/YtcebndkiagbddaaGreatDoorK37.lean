/- A part of the proof: contracts of functions and what they stand on. Written shorter and merged by a program (pack.py). -/
import Derived.Test.YtcebndkiagbddaaGreatDoorK35
import Derived.Test.YtcebndkiagbddaaGreatDoorK34
import Derived.Test.YtcebndkiagbddaaGreatDoorK33
set_option linter.unusedVariables false
set_option linter.unusedSimpArgs false
set_option maxRecDepth 100000
set_option maxHeartbeats 4000000
namespace Go.Proofs.YtcebndkiagbddaaGreatDoor
section
open Go.RowKit
theorem Qgt {c:ConfS} {at_:List UInt8} {n:List Bool} (hc:PsOk c.ps) (ha:at_≠[]) (hi0:0 < c.ps.length) (hk:Qv c.ps at_=((0:Nat):Int)) (hn:n.length≤32):Cf Tryz.prog 70 [(0,bK c 1 c.ps.length),(1,rK c.ps.length (c.ps) nmK),(7000,dK (c.ps) 0),(7001,dK (c.ps) 1),(7002,dK (c.ps) 2),(7003,dK (c.ps) 3),(7004,dK (c.ps) 4),(7005,dK (c.ps) 5)] [.own 0 0,.s at_,.agg [.i 10,.s [],.i 0,.u32 (adr n),.i (n.length:Int)]] [(0,bK c 1 c.ps.length),(1,rK c.ps.length (Qn c.ps 0 n) [7100,7001,7002,7003,7004,7005]),(7100,dK (Qn c.ps 0 n) 0),(7001,dK (Qn c.ps 0 n) 1),(7002,dK (Qn c.ps 0 n) 2),(7003,dK (Qn c.ps 0 n) 3),(7004,dK (Qn c.ps 0 n) 4),(7005,dK (Qn c.ps 0 n) 5)] (.tup [.s at_,.i (WC c.ps 0 n)]):=by
 have hpl:(psD c.ps n c.ps.length).length=c.ps.length:=Ws;refine QV {cu:=[6,22]} Tryz.func70 Tryz.ntmps70 ?_;refine clX (Xi (c:=c) (k:=10) (n:=0) (b:=(n.length:Int)) (t:=[]) (a:=adr n) (by decide)) ?_
 repeat refine o2 ?_
 refine knF (knF ?_);refine ⟨⟨[(0,.own 0 0),(4,.own 1004 0),(5,.own 1005 0)],[(0,bK c 1 c.ps.length),(1,rK c.ps.length (c.ps) nmK),(7000,dK (c.ps) 0),(7001,dK (c.ps) 1),(7002,dK (c.ps) 2),(7003,dK (c.ps) 3),(7004,dK (c.ps) 4),(7005,dK (c.ps) 5),(1004,.box [.s at_] 9),(1005,.box [.i 10,.s [],.i 0,.u32 (adr n),.i (n.length:Int)] 48)]⟩,?_,?_⟩
 ·skip
  repeat refine o2 ?_
  trivial
 refine clX (Zg (c:=c) (at_:=at_) (i:=0) hc.len ha hi0 hk) ?_
 repeat refine o2 ?_
 refine knF (knF (knF (knF (knF (knF (knT ?_))))));refine ⟨⟨[(0,.own 0 0),(4,.own 1004 0),(5,.own 1005 0)],[(0,bK c 1 c.ps.length),(1,rK c.ps.length (c.ps) nmK),(7000,dK (c.ps) 0),(7001,dK (c.ps) 1),(7002,dK (c.ps) 2),(7003,dK (c.ps) 3),(7004,dK (c.ps) 4),(7005,dK (c.ps) 5),(1004,.box [.s at_] 9),(1005,.box [.i 10,.s [],.i 0,.u32 (adr n),.i (n.length:Int)] 48)]⟩,?_,?_⟩
 ·skip
  repeat refine o2 ?_
  trivial
 refine ⟨[0,0,0,0,8,30,63,127],by kernel_rfl,?_⟩;refine clX (Qq4 (c:=c) hc ha hi0 hk hn) ?_
 repeat refine o2 ?_
 trivial
end
section
open Go.RowKit
theorem Qgu {c:ConfS} {at_:List UInt8} {n:List Bool} (hc:PsOk c.ps) (ha:at_≠[]) (hi0:1 < c.ps.length) (hk:Qv c.ps at_=((1:Nat):Int)) (hn:n.length≤32):Cf Tryz.prog 70 [(0,bK c 1 c.ps.length),(1,rK c.ps.length (c.ps) nmK),(7000,dK (c.ps) 0),(7001,dK (c.ps) 1),(7002,dK (c.ps) 2),(7003,dK (c.ps) 3),(7004,dK (c.ps) 4),(7005,dK (c.ps) 5)] [.own 0 0,.s at_,.agg [.i 10,.s [],.i 0,.u32 (adr n),.i (n.length:Int)]] [(0,bK c 1 c.ps.length),(1,rK c.ps.length (Qn c.ps 1 n) [7000,7100,7002,7003,7004,7005]),(7000,dK (Qn c.ps 1 n) 0),(7100,dK (Qn c.ps 1 n) 1),(7002,dK (Qn c.ps 1 n) 2),(7003,dK (Qn c.ps 1 n) 3),(7004,dK (Qn c.ps 1 n) 4),(7005,dK (Qn c.ps 1 n) 5)] (.tup [.s at_,.i (WC c.ps 1 n)]):=by
 have hpl:(psD c.ps n c.ps.length).length=c.ps.length:=Ws;refine QV {cu:=[6,22]} Tryz.func70 Tryz.ntmps70 ?_;refine clX (Xi (c:=c) (k:=10) (n:=0) (b:=(n.length:Int)) (t:=[]) (a:=adr n) (by decide)) ?_
 repeat refine o2 ?_
 refine knF (knF ?_);refine ⟨⟨[(0,.own 0 0),(4,.own 1004 0),(5,.own 1005 0)],[(0,bK c 1 c.ps.length),(1,rK c.ps.length (c.ps) nmK),(7000,dK (c.ps) 0),(7001,dK (c.ps) 1),(7002,dK (c.ps) 2),(7003,dK (c.ps) 3),(7004,dK (c.ps) 4),(7005,dK (c.ps) 5),(1004,.box [.s at_] 9),(1005,.box [.i 10,.s [],.i 0,.u32 (adr n),.i (n.length:Int)] 48)]⟩,?_,?_⟩
 ·skip
  repeat refine o2 ?_
  trivial
 refine clX (Zg (c:=c) (at_:=at_) (i:=1) hc.len ha hi0 hk) ?_
 repeat refine o2 ?_
 refine knF (knF (knF (knF (knF (knF (knT ?_))))));refine ⟨⟨[(0,.own 0 0),(4,.own 1004 0),(5,.own 1005 0)],[(0,bK c 1 c.ps.length),(1,rK c.ps.length (c.ps) nmK),(7000,dK (c.ps) 0),(7001,dK (c.ps) 1),(7002,dK (c.ps) 2),(7003,dK (c.ps) 3),(7004,dK (c.ps) 4),(7005,dK (c.ps) 5),(1004,.box [.s at_] 9),(1005,.box [.i 10,.s [],.i 0,.u32 (adr n),.i (n.length:Int)] 48)]⟩,?_,?_⟩
 ·skip
  repeat refine o2 ?_
  trivial
 refine ⟨[0,0,0,0,8,30,63,127],by kernel_rfl,?_⟩;refine clX (Qq5 (c:=c) hc ha hi0 hk hn) ?_
 repeat refine o2 ?_
 trivial
end
section
open Go.RowKit
theorem Qgv {c:ConfS} {at_:List UInt8} {n:List Bool} (hc:PsOk c.ps) (ha:at_≠[]) (hi0:2 < c.ps.length) (hk:Qv c.ps at_=((2:Nat):Int)) (hn:n.length≤32):Cf Tryz.prog 70 [(0,bK c 1 c.ps.length),(1,rK c.ps.length (c.ps) nmK),(7000,dK (c.ps) 0),(7001,dK (c.ps) 1),(7002,dK (c.ps) 2),(7003,dK (c.ps) 3),(7004,dK (c.ps) 4),(7005,dK (c.ps) 5)] [.own 0 0,.s at_,.agg [.i 10,.s [],.i 0,.u32 (adr n),.i (n.length:Int)]] [(0,bK c 1 c.ps.length),(1,rK c.ps.length (Qn c.ps 2 n) [7000,7001,7100,7003,7004,7005]),(7000,dK (Qn c.ps 2 n) 0),(7001,dK (Qn c.ps 2 n) 1),(7100,dK (Qn c.ps 2 n) 2),(7003,dK (Qn c.ps 2 n) 3),(7004,dK (Qn c.ps 2 n) 4),(7005,dK (Qn c.ps 2 n) 5)] (.tup [.s at_,.i (WC c.ps 2 n)]):=by
 have hpl:(psD c.ps n c.ps.length).length=c.ps.length:=Ws;refine QV {cu:=[6,22]} Tryz.func70 Tryz.ntmps70 ?_;refine clX (Xi (c:=c) (k:=10) (n:=0) (b:=(n.length:Int)) (t:=[]) (a:=adr n) (by decide)) ?_
 repeat refine o2 ?_
 refine knF (knF ?_);refine ⟨⟨[(0,.own 0 0),(4,.own 1004 0),(5,.own 1005 0)],[(0,bK c 1 c.ps.length),(1,rK c.ps.length (c.ps) nmK),(7000,dK (c.ps) 0),(7001,dK (c.ps) 1),(7002,dK (c.ps) 2),(7003,dK (c.ps) 3),(7004,dK (c.ps) 4),(7005,dK (c.ps) 5),(1004,.box [.s at_] 9),(1005,.box [.i 10,.s [],.i 0,.u32 (adr n),.i (n.length:Int)] 48)]⟩,?_,?_⟩
 ·skip
  repeat refine o2 ?_
  trivial
 refine clX (Zg (c:=c) (at_:=at_) (i:=2) hc.len ha hi0 hk) ?_
 repeat refine o2 ?_
 refine knF (knF (knF (knF (knF (knF (knT ?_))))));refine ⟨⟨[(0,.own 0 0),(4,.own 1004 0),(5,.own 1005 0)],[(0,bK c 1 c.ps.length),(1,rK c.ps.length (c.ps) nmK),(7000,dK (c.ps) 0),(7001,dK (c.ps) 1),(7002,dK (c.ps) 2),(7003,dK (c.ps) 3),(7004,dK (c.ps) 4),(7005,dK (c.ps) 5),(1004,.box [.s at_] 9),(1005,.box [.i 10,.s [],.i 0,.u32 (adr n),.i (n.length:Int)] 48)]⟩,?_,?_⟩
 ·skip
  repeat refine o2 ?_
  trivial
 refine ⟨[0,0,0,0,8,30,63,127],by kernel_rfl,?_⟩;refine clX (Qq6 (c:=c) hc ha hi0 hk hn) ?_
 repeat refine o2 ?_
 trivial
end
section
open Go.RowKit
theorem Qgw {c:ConfS} {at_:List UInt8} {n:List Bool} (hc:PsOk c.ps) (ha:at_≠[]) (hi0:3 < c.ps.length) (hk:Qv c.ps at_=((3:Nat):Int)) (hn:n.length≤32):Cf Tryz.prog 70 [(0,bK c 1 c.ps.length),(1,rK c.ps.length (c.ps) nmK),(7000,dK (c.ps) 0),(7001,dK (c.ps) 1),(7002,dK (c.ps) 2),(7003,dK (c.ps) 3),(7004,dK (c.ps) 4),(7005,dK (c.ps) 5)] [.own 0 0,.s at_,.agg [.i 10,.s [],.i 0,.u32 (adr n),.i (n.length:Int)]] [(0,bK c 1 c.ps.length),(1,rK c.ps.length (Qn c.ps 3 n) [7000,7001,7002,7100,7004,7005]),(7000,dK (Qn c.ps 3 n) 0),(7001,dK (Qn c.ps 3 n) 1),(7002,dK (Qn c.ps 3 n) 2),(7100,dK (Qn c.ps 3 n) 3),(7004,dK (Qn c.ps 3 n) 4),(7005,dK (Qn c.ps 3 n) 5)] (.tup [.s at_,.i (WC c.ps 3 n)]):=by
 have hpl:(psD c.ps n c.ps.length).length=c.ps.length:=Ws;refine QV {cu:=[6,22]} Tryz.func70 Tryz.ntmps70 ?_;refine clX (Xi (c:=c) (k:=10) (n:=0) (b:=(n.length:Int)) (t:=[]) (a:=adr n) (by decide)) ?_
 repeat refine o2 ?_
 refine knF (knF ?_);refine ⟨⟨[(0,.own 0 0),(4,.own 1004 0),(5,.own 1005 0)],[(0,bK c 1 c.ps.length),(1,rK c.ps.length (c.ps) nmK),(7000,dK (c.ps) 0),(7001,dK (c.ps) 1),(7002,dK (c.ps) 2),(7003,dK (c.ps) 3),(7004,dK (c.ps) 4),(7005,dK (c.ps) 5),(1004,.box [.s at_] 9),(1005,.box [.i 10,.s [],.i 0,.u32 (adr n),.i (n.length:Int)] 48)]⟩,?_,?_⟩
 ·skip
  repeat refine o2 ?_
  trivial
 refine clX (Zg (c:=c) (at_:=at_) (i:=3) hc.len ha hi0 hk) ?_
 repeat refine o2 ?_
 refine knF (knF (knF (knF (knF (knF (knT ?_))))));refine ⟨⟨[(0,.own 0 0),(4,.own 1004 0),(5,.own 1005 0)],[(0,bK c 1 c.ps.length),(1,rK c.ps.length (c.ps) nmK),(7000,dK (c.ps) 0),(7001,dK (c.ps) 1),(7002,dK (c.ps) 2),(7003,dK (c.ps) 3),(7004,dK (c.ps) 4),(7005,dK (c.ps) 5),(1004,.box [.s at_] 9),(1005,.box [.i 10,.s [],.i 0,.u32 (adr n),.i (n.length:Int)] 48)]⟩,?_,?_⟩
 ·skip
  repeat refine o2 ?_
  trivial
 refine ⟨[0,0,0,0,8,30,63,127],by kernel_rfl,?_⟩;refine clX (Qq7 (c:=c) hc ha hi0 hk hn) ?_
 repeat refine o2 ?_
 trivial
end
section
open Go.RowKit
theorem Qgx {c:ConfS} {at_:List UInt8} {n:List Bool} (hc:PsOk c.ps) (ha:at_≠[]) (hi0:4 < c.ps.length) (hk:Qv c.ps at_=((4:Nat):Int)) (hn:n.length≤32):Cf Tryz.prog 70 [(0,bK c 1 c.ps.length),(1,rK c.ps.length (c.ps) nmK),(7000,dK (c.ps) 0),(7001,dK (c.ps) 1),(7002,dK (c.ps) 2),(7003,dK (c.ps) 3),(7004,dK (c.ps) 4),(7005,dK (c.ps) 5)] [.own 0 0,.s at_,.agg [.i 10,.s [],.i 0,.u32 (adr n),.i (n.length:Int)]] [(0,bK c 1 c.ps.length),(1,rK c.ps.length (Qn c.ps 4 n) [7000,7001,7002,7003,7100,7005]),(7000,dK (Qn c.ps 4 n) 0),(7001,dK (Qn c.ps 4 n) 1),(7002,dK (Qn c.ps 4 n) 2),(7003,dK (Qn c.ps 4 n) 3),(7100,dK (Qn c.ps 4 n) 4),(7005,dK (Qn c.ps 4 n) 5)] (.tup [.s at_,.i (WC c.ps 4 n)]):=by
 have hpl:(psD c.ps n c.ps.length).length=c.ps.length:=Ws;refine QV {cu:=[6,22]} Tryz.func70 Tryz.ntmps70 ?_;refine clX (Xi (c:=c) (k:=10) (n:=0) (b:=(n.length:Int)) (t:=[]) (a:=adr n) (by decide)) ?_
 repeat refine o2 ?_
 refine knF (knF ?_);refine ⟨⟨[(0,.own 0 0),(4,.own 1004 0),(5,.own 1005 0)],[(0,bK c 1 c.ps.length),(1,rK c.ps.length (c.ps) nmK),(7000,dK (c.ps) 0),(7001,dK (c.ps) 1),(7002,dK (c.ps) 2),(7003,dK (c.ps) 3),(7004,dK (c.ps) 4),(7005,dK (c.ps) 5),(1004,.box [.s at_] 9),(1005,.box [.i 10,.s [],.i 0,.u32 (adr n),.i (n.length:Int)] 48)]⟩,?_,?_⟩
 ·skip
  repeat refine o2 ?_
  trivial
 refine clX (Zg (c:=c) (at_:=at_) (i:=4) hc.len ha hi0 hk) ?_
 repeat refine o2 ?_
 refine knF (knF (knF (knF (knF (knF (knT ?_))))));refine ⟨⟨[(0,.own 0 0),(4,.own 1004 0),(5,.own 1005 0)],[(0,bK c 1 c.ps.length),(1,rK c.ps.length (c.ps) nmK),(7000,dK (c.ps) 0),(7001,dK (c.ps) 1),(7002,dK (c.ps) 2),(7003,dK (c.ps) 3),(7004,dK (c.ps) 4),(7005,dK (c.ps) 5),(1004,.box [.s at_] 9),(1005,.box [.i 10,.s [],.i 0,.u32 (adr n),.i (n.length:Int)] 48)]⟩,?_,?_⟩
 ·skip
  repeat refine o2 ?_
  trivial
 refine ⟨[0,0,0,0,8,30,63,127],by kernel_rfl,?_⟩;refine clX (Qq8 (c:=c) hc ha hi0 hk hn) ?_
 repeat refine o2 ?_
 trivial
end
section
open Go.RowKit
theorem Qgy {c:ConfS} {at_:List UInt8} {n:List Bool} (hc:PsOk c.ps) (ha:at_≠[]) (hi0:5 < c.ps.length) (hk:Qv c.ps at_=((5:Nat):Int)) (hn:n.length≤32):Cf Tryz.prog 70 [(0,bK c 1 c.ps.length),(1,rK c.ps.length (c.ps) nmK),(7000,dK (c.ps) 0),(7001,dK (c.ps) 1),(7002,dK (c.ps) 2),(7003,dK (c.ps) 3),(7004,dK (c.ps) 4),(7005,dK (c.ps) 5)] [.own 0 0,.s at_,.agg [.i 10,.s [],.i 0,.u32 (adr n),.i (n.length:Int)]] [(0,bK c 1 c.ps.length),(1,rK c.ps.length (Qn c.ps 5 n) [7000,7001,7002,7003,7004,7100]),(7000,dK (Qn c.ps 5 n) 0),(7001,dK (Qn c.ps 5 n) 1),(7002,dK (Qn c.ps 5 n) 2),(7003,dK (Qn c.ps 5 n) 3),(7004,dK (Qn c.ps 5 n) 4),(7100,dK (Qn c.ps 5 n) 5)] (.tup [.s at_,.i (WC c.ps 5 n)]):=by
 have hpl:(psD c.ps n c.ps.length).length=c.ps.length:=Ws;refine QV {cu:=[6,22]} Tryz.func70 Tryz.ntmps70 ?_;refine clX (Xi (c:=c) (k:=10) (n:=0) (b:=(n.length:Int)) (t:=[]) (a:=adr n) (by decide)) ?_
 repeat refine o2 ?_
 refine knF (knF ?_);refine ⟨⟨[(0,.own 0 0),(4,.own 1004 0),(5,.own 1005 0)],[(0,bK c 1 c.ps.length),(1,rK c.ps.length (c.ps) nmK),(7000,dK (c.ps) 0),(7001,dK (c.ps) 1),(7002,dK (c.ps) 2),(7003,dK (c.ps) 3),(7004,dK (c.ps) 4),(7005,dK (c.ps) 5),(1004,.box [.s at_] 9),(1005,.box [.i 10,.s [],.i 0,.u32 (adr n),.i (n.length:Int)] 48)]⟩,?_,?_⟩
 ·skip
  repeat refine o2 ?_
  trivial
 refine clX (Zg (c:=c) (at_:=at_) (i:=5) hc.len ha hi0 hk) ?_
 repeat refine o2 ?_
 refine knF (knF (knF (knF (knF (knF (knT ?_))))));refine ⟨⟨[(0,.own 0 0),(4,.own 1004 0),(5,.own 1005 0)],[(0,bK c 1 c.ps.length),(1,rK c.ps.length (c.ps) nmK),(7000,dK (c.ps) 0),(7001,dK (c.ps) 1),(7002,dK (c.ps) 2),(7003,dK (c.ps) 3),(7004,dK (c.ps) 4),(7005,dK (c.ps) 5),(1004,.box [.s at_] 9),(1005,.box [.i 10,.s [],.i 0,.u32 (adr n),.i (n.length:Int)] 48)]⟩,?_,?_⟩
 ·skip
  repeat refine o2 ?_
  trivial
 refine ⟨[0,0,0,0,8,30,63,127],by kernel_rfl,?_⟩;refine clX (Qq9 (c:=c) hc ha hi0 hk hn) ?_
 repeat refine o2 ?_
 trivial
end
end Go.Proofs.YtcebndkiagbddaaGreatDoor
