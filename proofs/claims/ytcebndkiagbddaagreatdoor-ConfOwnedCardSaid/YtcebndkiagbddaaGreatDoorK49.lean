/- A part of the proof: contracts of functions and what they stand on. Written shorter and merged by a program (pack.py). -/
import Derived.Test.YtcebndkiagbddaaGreatDoorK48
set_option linter.unusedVariables false
set_option linter.unusedSimpArgs false
set_option maxRecDepth 100000
set_option maxHeartbeats 4000000
namespace Go.Proofs.YtcebndkiagbddaaGreatDoor
section
open Go.RowKit
theorem Qjt {c:ConfS} {at_:List UInt8} {n:List Bool} (ha:at_≠[]) (hi0:1 < c.ps.length) (hk:Qq c.ps at_=((1:Nat):Int)) (hf:¬ Zn c 1 n) (h:ConfOk c) (hs:QT ⟨10,[],0,n⟩) (ho:ConfOk ⟨c.k,c.port,Qh c.ps 1 n⟩):Cf Tryz.prog 26 [] [Qn c,.s at_,Zq ⟨10,[],0,n⟩] [] (.tup [Qn ⟨c.k,c.port,Qh c.ps 1 n⟩,.s at_,.i 0]):=by
 have hpl:=h.pl;have hpo:=ZE h;have hcQ:Q5 c.ps 1 n=0:=if_neg hf;have hmQ:Qg c.ps 1 n=Qh c.ps 1 n:=if_neg hf;have hml:(Qh c.ps 1 n).length=c.ps.length:=by rw [<- hmQ];exact YO
 have hon:=Qew (c:=c) (at_:=at_) (n:=n) hpo ha hi0 hk hs.2;rw [hcQ] at hon;rw [hmQ] at hon;refine Qr {cu:=[8,9]} Tryz.func26 Tryz.ntmps26 ?_;refine clX (Qf h) ?_
 repeat refine o2 ?_
 refine knF ?_;refine clX (QG hs) ?_
 repeat refine o0 ?_
 refine knF ?_;refine clX (WC (c:=c) h.pl (h86 h)) ?_
 repeat refine o2 ?_
 refine ⟨⟨[(1,.s at_),(5,.own 1005 0),(6,.own 1006 0),(11,.own 1011 0)],[(1005,.box [.i 10,.s [],.i 0,.u32 (adr n),.i (n.length:Int)] 48),(1006,.box [.s [],.i 0,.nil] 25),(1011,bK c 61 c.ps.length),(61,rK c.ps.length (c.ps) nmK),(7000,dK (c.ps) 0),(7001,dK (c.ps) 1),(7002,dK (c.ps) 2),(7003,dK (c.ps) 3),(7004,dK (c.ps) 4),(7005,dK (c.ps) 5)]⟩,?_,?_⟩
 ·skip
  repeat refine o1 ?_
  trivial
 refine clX hon ?_
 repeat refine o1 ?_
 refine ⟨⟨[(12,.s at_),(13,.i 0),(6,.own 1006 0),(11,.own 1011 0)],[(1006,.box [.s [],.i 0,.nil] 25),(1011,bK c 61 c.ps.length),(61,rK c.ps.length (Qh c.ps 1 n) [7000,7100,7002,7003,7004,7005]),(7000,dK (Qh c.ps 1 n) 0),(7100,dK (Qh c.ps 1 n) 1),(7002,dK (Qh c.ps 1 n) 2),(7003,dK (Qh c.ps 1 n) 3),(7004,dK (Qh c.ps 1 n) 4),(7005,dK (Qh c.ps 1 n) 5)]⟩,?_,?_⟩
 ·skip
  repeat refine o1 ?_
  trivial
 refine knF ?_;refine clX (Qy (c:=⟨c.k,c.port,Qh c.ps 1 n⟩) (hl3 ho) (h86 ho)) ?_
 repeat refine o32 ?_
 trivial
theorem Qju {c:ConfS} {at_:List UInt8} {n:List Bool} (ha:at_≠[]) (hi0:1 < c.ps.length) (hk:Qq c.ps at_=((1:Nat):Int)) (hf:Zn c 1 n) (h:ConfOk c) (hs:QT ⟨10,[],0,n⟩):Cf Tryz.prog 26 [] [Qn c,.s at_,Zq ⟨10,[],0,n⟩] [] (.tup [Qn WW,.s [],.i 7]):=by
 have hpl:=h.pl;have hpo:=ZE h;have hcQ:Q5 c.ps 1 n=7:=if_pos hf;have hon:=Qew (c:=c) (at_:=at_) (n:=n) hpo ha hi0 hk hs.2;rw [hcQ] at hon;refine Qr {cu:=[8,9]} Tryz.func26 Tryz.ntmps26 ?_;refine clX (Qf h) ?_
 repeat refine o2 ?_
 refine knF ?_;refine clX (QG hs) ?_
 repeat refine o0 ?_
 refine knF ?_;refine clX (WC (c:=c) h.pl (h86 h)) ?_
 repeat refine o2 ?_
 refine ⟨⟨[(1,.s at_),(5,.own 1005 0),(6,.own 1006 0),(11,.own 1011 0)],[(1005,.box [.i 10,.s [],.i 0,.u32 (adr n),.i (n.length:Int)] 48),(1006,.box [.s [],.i 0,.nil] 25),(1011,bK c 61 c.ps.length),(61,rK c.ps.length (c.ps) nmK),(7000,dK (c.ps) 0),(7001,dK (c.ps) 1),(7002,dK (c.ps) 2),(7003,dK (c.ps) 3),(7004,dK (c.ps) 4),(7005,dK (c.ps) 5)]⟩,?_,?_⟩
 ·skip
  repeat refine o1 ?_
  trivial
 refine clX hon ?_
 repeat refine o1 ?_
 refine ⟨⟨[(13,.i 7),(6,.own 1006 0),(11,.own 1011 0)],[(1006,.box [.s [],.i 0,.nil] 25)]⟩,?_,?_⟩
 ·skip
  repeat refine o0 ?_
  trivial
 refine knT ?_
 repeat refine o0 ?_
 trivial
end
section
open Go.RowKit
theorem Qjx {c:ConfS} {at_:List UInt8} {n:List Bool} (ha:at_≠[]) (hi0:3 < c.ps.length) (hk:Qq c.ps at_=((3:Nat):Int)) (hf:¬ Zn c 3 n) (h:ConfOk c) (hs:QT ⟨10,[],0,n⟩) (ho:ConfOk ⟨c.k,c.port,Qh c.ps 3 n⟩):Cf Tryz.prog 26 [] [Qn c,.s at_,Zq ⟨10,[],0,n⟩] [] (.tup [Qn ⟨c.k,c.port,Qh c.ps 3 n⟩,.s at_,.i 0]):=by
 have hpl:=h.pl;have hpo:=ZE h;have hcQ:Q5 c.ps 3 n=0:=if_neg hf;have hmQ:Qg c.ps 3 n=Qh c.ps 3 n:=if_neg hf;have hml:(Qh c.ps 3 n).length=c.ps.length:=by rw [<- hmQ];exact YO
 have hon:=Qey (c:=c) (at_:=at_) (n:=n) hpo ha hi0 hk hs.2;rw [hcQ] at hon;rw [hmQ] at hon;refine Qr {cu:=[8,9]} Tryz.func26 Tryz.ntmps26 ?_;refine clX (Qf h) ?_
 repeat refine o2 ?_
 refine knF ?_;refine clX (QG hs) ?_
 repeat refine o0 ?_
 refine knF ?_;refine clX (WC (c:=c) h.pl (h86 h)) ?_
 repeat refine o2 ?_
 refine ⟨⟨[(1,.s at_),(5,.own 1005 0),(6,.own 1006 0),(11,.own 1011 0)],[(1005,.box [.i 10,.s [],.i 0,.u32 (adr n),.i (n.length:Int)] 48),(1006,.box [.s [],.i 0,.nil] 25),(1011,bK c 61 c.ps.length),(61,rK c.ps.length (c.ps) nmK),(7000,dK (c.ps) 0),(7001,dK (c.ps) 1),(7002,dK (c.ps) 2),(7003,dK (c.ps) 3),(7004,dK (c.ps) 4),(7005,dK (c.ps) 5)]⟩,?_,?_⟩
 ·skip
  repeat refine o1 ?_
  trivial
 refine clX hon ?_
 repeat refine o1 ?_
 refine ⟨⟨[(12,.s at_),(13,.i 0),(6,.own 1006 0),(11,.own 1011 0)],[(1006,.box [.s [],.i 0,.nil] 25),(1011,bK c 61 c.ps.length),(61,rK c.ps.length (Qh c.ps 3 n) [7000,7001,7002,7100,7004,7005]),(7000,dK (Qh c.ps 3 n) 0),(7001,dK (Qh c.ps 3 n) 1),(7002,dK (Qh c.ps 3 n) 2),(7100,dK (Qh c.ps 3 n) 3),(7004,dK (Qh c.ps 3 n) 4),(7005,dK (Qh c.ps 3 n) 5)]⟩,?_,?_⟩
 ·skip
  repeat refine o1 ?_
  trivial
 refine knF ?_;refine clX (Qy (c:=⟨c.k,c.port,Qh c.ps 3 n⟩) (hl3 ho) (h86 ho)) ?_
 repeat refine o32 ?_
 trivial
theorem Qjy {c:ConfS} {at_:List UInt8} {n:List Bool} (ha:at_≠[]) (hi0:3 < c.ps.length) (hk:Qq c.ps at_=((3:Nat):Int)) (hf:Zn c 3 n) (h:ConfOk c) (hs:QT ⟨10,[],0,n⟩):Cf Tryz.prog 26 [] [Qn c,.s at_,Zq ⟨10,[],0,n⟩] [] (.tup [Qn WW,.s [],.i 7]):=by
 have hpl:=h.pl;have hpo:=ZE h;have hcQ:Q5 c.ps 3 n=7:=if_pos hf;have hon:=Qey (c:=c) (at_:=at_) (n:=n) hpo ha hi0 hk hs.2;rw [hcQ] at hon;refine Qr {cu:=[8,9]} Tryz.func26 Tryz.ntmps26 ?_;refine clX (Qf h) ?_
 repeat refine o2 ?_
 refine knF ?_;refine clX (QG hs) ?_
 repeat refine o0 ?_
 refine knF ?_;refine clX (WC (c:=c) h.pl (h86 h)) ?_
 repeat refine o2 ?_
 refine ⟨⟨[(1,.s at_),(5,.own 1005 0),(6,.own 1006 0),(11,.own 1011 0)],[(1005,.box [.i 10,.s [],.i 0,.u32 (adr n),.i (n.length:Int)] 48),(1006,.box [.s [],.i 0,.nil] 25),(1011,bK c 61 c.ps.length),(61,rK c.ps.length (c.ps) nmK),(7000,dK (c.ps) 0),(7001,dK (c.ps) 1),(7002,dK (c.ps) 2),(7003,dK (c.ps) 3),(7004,dK (c.ps) 4),(7005,dK (c.ps) 5)]⟩,?_,?_⟩
 ·skip
  repeat refine o1 ?_
  trivial
 refine clX hon ?_
 repeat refine o1 ?_
 refine ⟨⟨[(13,.i 7),(6,.own 1006 0),(11,.own 1011 0)],[(1006,.box [.s [],.i 0,.nil] 25)]⟩,?_,?_⟩
 ·skip
  repeat refine o0 ?_
  trivial
 refine knT ?_
 repeat refine o0 ?_
 trivial
end
section
open Go.RowKit
theorem QjB {c:ConfS} {at_:List UInt8} {n:List Bool} (ha:at_≠[]) (hi0:5 < c.ps.length) (hk:Qq c.ps at_=((5:Nat):Int)) (hf:¬ Zn c 5 n) (h:ConfOk c) (hs:QT ⟨10,[],0,n⟩) (ho:ConfOk ⟨c.k,c.port,Qh c.ps 5 n⟩):Cf Tryz.prog 26 [] [Qn c,.s at_,Zq ⟨10,[],0,n⟩] [] (.tup [Qn ⟨c.k,c.port,Qh c.ps 5 n⟩,.s at_,.i 0]):=by
 have hpl:=h.pl;have hpo:=ZE h;have hcQ:Q5 c.ps 5 n=0:=if_neg hf;have hmQ:Qg c.ps 5 n=Qh c.ps 5 n:=if_neg hf;have hml:(Qh c.ps 5 n).length=c.ps.length:=by rw [<- hmQ];exact YO
 have hon:=QeA (c:=c) (at_:=at_) (n:=n) hpo ha hi0 hk hs.2;rw [hcQ] at hon;rw [hmQ] at hon;refine Qr {cu:=[8,9]} Tryz.func26 Tryz.ntmps26 ?_;refine clX (Qf h) ?_
 repeat refine o2 ?_
 refine knF ?_;refine clX (QG hs) ?_
 repeat refine o0 ?_
 refine knF ?_;refine clX (WC (c:=c) h.pl (h86 h)) ?_
 repeat refine o2 ?_
 refine ⟨⟨[(1,.s at_),(5,.own 1005 0),(6,.own 1006 0),(11,.own 1011 0)],[(1005,.box [.i 10,.s [],.i 0,.u32 (adr n),.i (n.length:Int)] 48),(1006,.box [.s [],.i 0,.nil] 25),(1011,bK c 61 c.ps.length),(61,rK c.ps.length (c.ps) nmK),(7000,dK (c.ps) 0),(7001,dK (c.ps) 1),(7002,dK (c.ps) 2),(7003,dK (c.ps) 3),(7004,dK (c.ps) 4),(7005,dK (c.ps) 5)]⟩,?_,?_⟩
 ·skip
  repeat refine o1 ?_
  trivial
 refine clX hon ?_
 repeat refine o1 ?_
 refine ⟨⟨[(12,.s at_),(13,.i 0),(6,.own 1006 0),(11,.own 1011 0)],[(1006,.box [.s [],.i 0,.nil] 25),(1011,bK c 61 c.ps.length),(61,rK c.ps.length (Qh c.ps 5 n) [7000,7001,7002,7003,7004,7100]),(7000,dK (Qh c.ps 5 n) 0),(7001,dK (Qh c.ps 5 n) 1),(7002,dK (Qh c.ps 5 n) 2),(7003,dK (Qh c.ps 5 n) 3),(7004,dK (Qh c.ps 5 n) 4),(7100,dK (Qh c.ps 5 n) 5)]⟩,?_,?_⟩
 ·skip
  repeat refine o1 ?_
  trivial
 refine knF ?_;refine clX (Qy (c:=⟨c.k,c.port,Qh c.ps 5 n⟩) (hl3 ho) (h86 ho)) ?_
 repeat refine o32 ?_
 trivial
theorem QjC {c:ConfS} {at_:List UInt8} {n:List Bool} (ha:at_≠[]) (hi0:5 < c.ps.length) (hk:Qq c.ps at_=((5:Nat):Int)) (hf:Zn c 5 n) (h:ConfOk c) (hs:QT ⟨10,[],0,n⟩):Cf Tryz.prog 26 [] [Qn c,.s at_,Zq ⟨10,[],0,n⟩] [] (.tup [Qn WW,.s [],.i 7]):=by
 have hpl:=h.pl;have hpo:=ZE h;have hcQ:Q5 c.ps 5 n=7:=if_pos hf;have hon:=QeA (c:=c) (at_:=at_) (n:=n) hpo ha hi0 hk hs.2;rw [hcQ] at hon;refine Qr {cu:=[8,9]} Tryz.func26 Tryz.ntmps26 ?_;refine clX (Qf h) ?_
 repeat refine o2 ?_
 refine knF ?_;refine clX (QG hs) ?_
 repeat refine o0 ?_
 refine knF ?_;refine clX (WC (c:=c) h.pl (h86 h)) ?_
 repeat refine o2 ?_
 refine ⟨⟨[(1,.s at_),(5,.own 1005 0),(6,.own 1006 0),(11,.own 1011 0)],[(1005,.box [.i 10,.s [],.i 0,.u32 (adr n),.i (n.length:Int)] 48),(1006,.box [.s [],.i 0,.nil] 25),(1011,bK c 61 c.ps.length),(61,rK c.ps.length (c.ps) nmK),(7000,dK (c.ps) 0),(7001,dK (c.ps) 1),(7002,dK (c.ps) 2),(7003,dK (c.ps) 3),(7004,dK (c.ps) 4),(7005,dK (c.ps) 5)]⟩,?_,?_⟩
 ·skip
  repeat refine o1 ?_
  trivial
 refine clX hon ?_
 repeat refine o1 ?_
 refine ⟨⟨[(13,.i 7),(6,.own 1006 0),(11,.own 1011 0)],[(1006,.box [.s [],.i 0,.nil] 25)]⟩,?_,?_⟩
 ·skip
  repeat refine o0 ?_
  trivial
 refine knT ?_
 repeat refine o0 ?_
 trivial
end
end Go.Proofs.YtcebndkiagbddaaGreatDoor
