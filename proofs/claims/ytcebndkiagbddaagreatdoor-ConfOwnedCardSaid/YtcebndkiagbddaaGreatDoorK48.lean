/- A part of the proof: contracts of functions and what they stand on. Written shorter and merged by a program (pack.py). -/
import Derived.Test.YtcebndkiagbddaaGreatDoorK46
import Derived.Test.YtcebndkiagbddaaGreatDoorK44
set_option linter.unusedVariables false
set_option linter.unusedSimpArgs false
set_option maxRecDepth 100000
set_option maxHeartbeats 4000000
namespace Go.Proofs.YtcebndkiagbddaaGreatDoor
section
open Go.RowKit
theorem hl3 {c:ConfS} (h:ConfOk c):c.ps.length<=1000:=Nat.le_trans h.pl (by decide)
theorem h86 {c:ConfS} (h:ConfOk c):∀ p∈c.ps,p.ns.length<=1000000:=fun p hp=>Nat.le_trans (h.ps p hp).1.nl (by decide)
theorem QG {s:SetS} (h:QT s):Cf Tryz.prog 69 [] [Zq s] [] (.i 0):=by
 have k:=QfF (Qr0 h.1 h.2);rw [h.1] at k;exact k
theorem QoL {c:ConfS} {at_:List UInt8} {t:List UInt8} (hk:Qq c.ps t = -1) (h:ConfOk c) (hs:QT ⟨1,t,0,[]⟩) (ho:ConfOk ⟨t,c.port,c.ps⟩):Cf Tryz.prog 26 [] [Qn c,.s at_,Zq ⟨1,t,0,[]⟩] [] (.tup [Qn ⟨t,c.port,c.ps⟩,.s [],.i 0]):=by
 refine Qr {} Tryz.func26 Tryz.ntmps26 ?_;refine clX (Qf h) ?_
 repeat refine o2 ?_
 refine knF ?_;refine clX (QG hs) ?_
 repeat refine o0 ?_
 refine knF ?_;refine clX (Qy (c:=c) (hl3 h) (h86 h)) ?_
 repeat refine o2 ?_
 refine clX (Qox (c:=c) (at_:=at_) h.pl hk) ?_
 repeat refine o1 ?_
 refine knF ?_;refine clX (Qy (c:=⟨t,c.port,c.ps⟩) (hl3 ho) (h86 ho)) ?_
 repeat refine o2 ?_
 trivial
theorem QoM {c:ConfS} {at_:List UInt8} {t:List UInt8} {i:Nat} (hk:Qq c.ps t=(i:Int)) (h:ConfOk c) (hs:QT ⟨1,t,0,[]⟩):Cf Tryz.prog 26 [] [Qn c,.s at_,Zq ⟨1,t,0,[]⟩] [] (.tup [Qn WW,.s [],.i 14]):=by
 refine Qr {} Tryz.func26 Tryz.ntmps26 ?_;refine clX (Qf h) ?_
 repeat refine o2 ?_
 refine knF ?_;refine clX (QG hs) ?_
 repeat refine o0 ?_
 refine knF ?_;refine clX (Qy (c:=c) (hl3 h) (h86 h)) ?_
 repeat refine o2 ?_
 refine clX (Qoy (c:=c) (at_:=at_) h.pl hk) ?_
 repeat refine o1 ?_
 refine knT ?_
 repeat refine o0 ?_
 trivial
theorem Qr1 {c:ConfS} {at_:List UInt8} {n:Int} (h:ConfOk c) (hs:QT ⟨2,[],n,[]⟩) (ho:ConfOk ⟨c.k,n,c.ps⟩):Cf Tryz.prog 26 [] [Qn c,.s at_,Zq ⟨2,[],n,[]⟩] [] (.tup [Qn ⟨c.k,n,c.ps⟩,.s [],.i 0]):=by
 refine Qr {} Tryz.func26 Tryz.ntmps26 ?_;refine clX (Qf h) ?_
 repeat refine o2 ?_
 refine knF ?_;refine clX (QG hs) ?_
 repeat refine o0 ?_
 refine knF ?_;refine clX (Qy (c:=c) (hl3 h) (h86 h)) ?_
 repeat refine o2 ?_
 refine clX (QrB (c:=c) (at_:=at_) (n:=n)) ?_
 repeat refine o1 ?_
 refine knF ?_;refine clX (Qy (c:=⟨c.k,n,c.ps⟩) (hl3 ho) (h86 ho)) ?_
 repeat refine o2 ?_
 trivial
theorem Qr2 {c:ConfS} {at_:List UInt8} (h:ConfOk c) (hs:QT ⟨3,[],0,[]⟩) (ho:ConfOk ⟨c.k,c.port,[]⟩):Cf Tryz.prog 26 [] [Qn c,.s at_,Zq ⟨3,[],0,[]⟩] [] (.tup [Qn ⟨c.k,c.port,[]⟩,.s [],.i 0]):=by
 refine Qr {} Tryz.func26 Tryz.ntmps26 ?_;refine clX (Qf h) ?_
 repeat refine o2 ?_
 refine knF ?_;refine clX (QG hs) ?_
 repeat refine o0 ?_
 refine knF ?_;refine clX (Qy (c:=c) (hl3 h) (h86 h)) ?_
 repeat refine o2 ?_
 refine clX (QrC (c:=c) (at_:=at_)) ?_
 repeat refine o1 ?_
 refine knF ?_;refine clX (Qy (c:=⟨c.k,c.port,[]⟩) (hl3 ho) (h86 ho)) ?_
 repeat refine o2 ?_
 trivial
theorem QoN {c:ConfS} {at_:List UInt8} (h:ConfOk c) (hs:QT ⟨4,c.k,0,[]⟩):Cf Tryz.prog 26 [] [Qn c,.s at_,Zq ⟨4,c.k,0,[]⟩] [] (.tup [Qn WW,.s [],.i 14]):=by
 refine Qr {} Tryz.func26 Tryz.ntmps26 ?_;refine clX (Qf h) ?_
 repeat refine o2 ?_
 refine knF ?_;refine clX (QG hs) ?_
 repeat refine o0 ?_
 refine knF ?_;refine clX (Qy (c:=c) (hl3 h) (h86 h)) ?_
 repeat refine o2 ?_
 refine clX (Qoz (c:=c) (at_:=at_)) ?_
 repeat refine o1 ?_
 refine knT ?_
 repeat refine o0 ?_
 trivial
theorem QoO {c:ConfS} {at_:List UInt8} {t:List UInt8} {i:Nat} (hk:Qq c.ps t=(i:Int)) (hn:t≠c.k) (h:ConfOk c) (hs:QT ⟨4,t,0,[]⟩) (ho:ConfOk c):Cf Tryz.prog 26 [] [Qn c,.s at_,Zq ⟨4,t,0,[]⟩] [] (.tup [Qn c,.s t,.i 0]):=by
 refine Qr {} Tryz.func26 Tryz.ntmps26 ?_;refine clX (Qf h) ?_
 repeat refine o2 ?_
 refine knF ?_;refine clX (QG hs) ?_
 repeat refine o0 ?_
 refine knF ?_;refine clX (Qy (c:=c) (hl3 h) (h86 h)) ?_
 repeat refine o2 ?_
 refine clX (QoA (c:=c) (at_:=at_) h.pl hk hn) ?_
 repeat refine o1 ?_
 refine knF ?_;refine clX (Qy (c:=c) (hl3 ho) (h86 ho)) ?_
 repeat refine o2 ?_
 trivial
theorem QoP {c:ConfS} {at_:List UInt8} {t:List UInt8} (hl:c.ps.length=6) (hk:Qq c.ps t = -1) (hn:t≠c.k) (h:ConfOk c) (hs:QT ⟨4,t,0,[]⟩):Cf Tryz.prog 26 [] [Qn c,.s at_,Zq ⟨4,t,0,[]⟩] [] (.tup [Qn WW,.s [],.i 7]):=by
 refine Qr {} Tryz.func26 Tryz.ntmps26 ?_;refine clX (Qf h) ?_
 repeat refine o2 ?_
 refine knF ?_;refine clX (QG hs) ?_
 repeat refine o0 ?_
 refine knF ?_;refine clX (Qy (c:=c) (hl3 h) (h86 h)) ?_
 repeat refine o2 ?_
 refine clX (QoB (c:=c) (at_:=at_) hl hk hn) ?_
 repeat refine o1 ?_
 refine knT ?_
 repeat refine o0 ?_
 trivial
theorem QoQ {c:ConfS} {at_:List UInt8} {t:List UInt8} (hl:c.ps.length < 6) (hk:Qq c.ps t = -1) (hn:t≠c.k) (h:ConfOk c) (hs:QT ⟨4,t,0,[]⟩) (ho:ConfOk (Qjh c t)):Cf Tryz.prog 26 [] [Qn c,.s at_,Zq ⟨4,t,0,[]⟩] [] (.tup [Qn (Qjh c t),.s t,.i 0]):=by
 refine Qr {} Tryz.func26 Tryz.ntmps26 ?_;refine clX (Qf h) ?_
 repeat refine o2 ?_
 refine knF ?_;refine clX (QG hs) ?_
 repeat refine o0 ?_
 refine knF ?_;refine clX (Qy (c:=c) (hl3 h) (h86 h)) ?_
 repeat refine o2 ?_
 refine clX (QoC (c:=c) (at_:=at_) hl hk hn (Z1.1 h.inc)) ?_
 repeat refine o1 ?_
 refine knF ?_;refine clX (Qy (c:=(Qjh c t)) (hl3 ho) (h86 ho)) ?_
 repeat refine o2 ?_
 trivial
theorem Qr3 {c:ConfS} {at_:List UInt8} {t:List UInt8} {i:Nat} (ha:at_≠[]) (hi:i < c.ps.length) (hk:Qq c.ps at_=(i:Int)) (h:ConfOk c) (hs:QT ⟨6,t,0,[]⟩) (ho:ConfOk (VB c i ⟨(c.ps.getD i Qa).k,t,(c.ps.getD i Qa).e,(c.ps.getD i Qa).a,(c.ps.getD i Qa).ns⟩)):Cf Tryz.prog 26 [] [Qn c,.s at_,Zq ⟨6,t,0,[]⟩] [] (.tup [Qn (VB c i ⟨(c.ps.getD i Qa).k,t,(c.ps.getD i Qa).e,(c.ps.getD i Qa).a,(c.ps.getD i Qa).ns⟩),.s at_,.i 0]):=by
 refine Qr {} Tryz.func26 Tryz.ntmps26 ?_;refine clX (Qf h) ?_
 repeat refine o2 ?_
 refine knF ?_;refine clX (QG hs) ?_
 repeat refine o0 ?_
 refine knF ?_;refine clX (Qy (c:=c) (hl3 h) (h86 h)) ?_
 repeat refine o2 ?_
 refine clX (QrD (c:=c) (at_:=at_) (t:=t) h.pl ha hi hk) ?_
 repeat refine o1 ?_
 refine knF ?_;refine clX (Qy (c:=(VB c i ⟨(c.ps.getD i Qa).k,t,(c.ps.getD i Qa).e,(c.ps.getD i Qa).a,(c.ps.getD i Qa).ns⟩)) (hl3 ho) (h86 ho)) ?_
 repeat refine o2 ?_
 trivial
theorem Qr4 {c:ConfS} {at_:List UInt8} {t:List UInt8} {i:Nat} (ha:at_≠[]) (hi:i < c.ps.length) (hk:Qq c.ps at_=(i:Int)) (h:ConfOk c) (hs:QT ⟨7,t,0,[]⟩) (ho:ConfOk (VB c i ⟨(c.ps.getD i Qa).k,(c.ps.getD i Qa).s,t,(c.ps.getD i Qa).a,(c.ps.getD i Qa).ns⟩)):Cf Tryz.prog 26 [] [Qn c,.s at_,Zq ⟨7,t,0,[]⟩] [] (.tup [Qn (VB c i ⟨(c.ps.getD i Qa).k,(c.ps.getD i Qa).s,t,(c.ps.getD i Qa).a,(c.ps.getD i Qa).ns⟩),.s at_,.i 0]):=by
 refine Qr {} Tryz.func26 Tryz.ntmps26 ?_;refine clX (Qf h) ?_
 repeat refine o2 ?_
 refine knF ?_;refine clX (QG hs) ?_
 repeat refine o0 ?_
 refine knF ?_;refine clX (Qy (c:=c) (hl3 h) (h86 h)) ?_
 repeat refine o2 ?_
 refine clX (QrE (c:=c) (at_:=at_) (t:=t) h.pl ha hi hk) ?_
 repeat refine o1 ?_
 refine knF ?_;refine clX (Qy (c:=(VB c i ⟨(c.ps.getD i Qa).k,(c.ps.getD i Qa).s,t,(c.ps.getD i Qa).a,(c.ps.getD i Qa).ns⟩)) (hl3 ho) (h86 ho)) ?_
 repeat refine o2 ?_
 trivial
theorem Qr5 {c:ConfS} {at_:List UInt8} {n:Int} {i:Nat} (ha:at_≠[]) (hi:i < c.ps.length) (hk:Qq c.ps at_=(i:Int)) (h:ConfOk c) (hs:QT ⟨8,[],n,[]⟩) (ho:ConfOk (VB c i ⟨(c.ps.getD i Qa).k,(c.ps.getD i Qa).s,(c.ps.getD i Qa).e,n,(c.ps.getD i Qa).ns⟩)):Cf Tryz.prog 26 [] [Qn c,.s at_,Zq ⟨8,[],n,[]⟩] [] (.tup [Qn (VB c i ⟨(c.ps.getD i Qa).k,(c.ps.getD i Qa).s,(c.ps.getD i Qa).e,n,(c.ps.getD i Qa).ns⟩),.s at_,.i 0]):=by
 refine Qr {} Tryz.func26 Tryz.ntmps26 ?_;refine clX (Qf h) ?_
 repeat refine o2 ?_
 refine knF ?_;refine clX (QG hs) ?_
 repeat refine o0 ?_
 refine knF ?_;refine clX (Qy (c:=c) (hl3 h) (h86 h)) ?_
 repeat refine o2 ?_
 refine clX (QrF (c:=c) (at_:=at_) (n:=n) h.pl ha hi hk) ?_
 repeat refine o1 ?_
 refine knF ?_;refine clX (Qy (c:=(VB c i ⟨(c.ps.getD i Qa).k,(c.ps.getD i Qa).s,(c.ps.getD i Qa).e,n,(c.ps.getD i Qa).ns⟩)) (hl3 ho) (h86 ho)) ?_
 repeat refine o2 ?_
 trivial
theorem Qr6 {c:ConfS} {at_:List UInt8} {i:Nat} (ha:at_≠[]) (hi:i < c.ps.length) (hk:Qq c.ps at_=(i:Int)) (h:ConfOk c) (hs:QT ⟨9,[],0,[]⟩) (ho:ConfOk (VB c i ⟨(c.ps.getD i Qa).k,(c.ps.getD i Qa).s,(c.ps.getD i Qa).e,(c.ps.getD i Qa).a,[]⟩)):Cf Tryz.prog 26 [] [Qn c,.s at_,Zq ⟨9,[],0,[]⟩] [] (.tup [Qn (VB c i ⟨(c.ps.getD i Qa).k,(c.ps.getD i Qa).s,(c.ps.getD i Qa).e,(c.ps.getD i Qa).a,[]⟩),.s at_,.i 0]):=by
 refine Qr {} Tryz.func26 Tryz.ntmps26 ?_;refine clX (Qf h) ?_
 repeat refine o2 ?_
 refine knF ?_;refine clX (QG hs) ?_
 repeat refine o0 ?_
 refine knF ?_;refine clX (Qy (c:=c) (hl3 h) (h86 h)) ?_
 repeat refine o2 ?_
 refine clX (QrG (c:=c) (at_:=at_) h.pl ha hi hk) ?_
 repeat refine o1 ?_
 refine knF ?_;refine clX (Qy (c:=(VB c i ⟨(c.ps.getD i Qa).k,(c.ps.getD i Qa).s,(c.ps.getD i Qa).e,(c.ps.getD i Qa).a,[]⟩)) (hl3 ho) (h86 ho)) ?_
 repeat refine o2 ?_
 trivial
theorem QoR {c:ConfS} {at_:List UInt8} {k n:Int} {t:List UInt8} {p:List Bool} (h5:5<=k) (hk:Qq c.ps at_ = -1) (h:ConfOk c) (hs:QT ⟨k,t,n,p⟩):Cf Tryz.prog 26 [] [Qn c,.s at_,Zq ⟨k,t,n,p⟩] [] (.tup [Qn WW,.s [],.i 13]):=by
 refine Qr {} Tryz.func26 Tryz.ntmps26 ?_;refine clX (Qf h) ?_
 repeat refine o2 ?_
 refine knF ?_;refine clX (QG hs) ?_
 repeat refine o0 ?_
 refine knF ?_;refine clX (Qy (c:=c) (hl3 h) (h86 h)) ?_
 repeat refine o2 ?_
 refine clX (QoD (c:=c) (at_:=at_) (k:=k) (n:=n) (b:=(p.length:Int)) (t:=t) (a:=adr p) hk h5 h.pl) ?_
 repeat refine o1 ?_
 refine knT ?_
 repeat refine o0 ?_
 trivial
theorem QoS {c:ConfS} {k n:Int} {t:List UInt8} {p:List Bool} (h5:5<=k) (h:ConfOk c) (hs:QT ⟨k,t,n,p⟩):Cf Tryz.prog 26 [] [Qn c,.s [],Zq ⟨k,t,n,p⟩] [] (.tup [Qn WW,.s [],.i 13]):=by
 refine Qr {} Tryz.func26 Tryz.ntmps26 ?_;refine clX (Qf h) ?_
 repeat refine o2 ?_
 refine knF ?_;refine clX (QG hs) ?_
 repeat refine o0 ?_
 refine knF ?_;refine clX (Qy (c:=c) (hl3 h) (h86 h)) ?_
 repeat refine o2 ?_
 refine clX (QoE (c:=c) (k:=k) (n:=n) (b:=(p.length:Int)) (t:=t) (a:=adr p) h5 h.pl) ?_
 repeat refine o1 ?_
 refine knT ?_
 repeat refine o0 ?_
 trivial
end
end Go.Proofs.YtcebndkiagbddaaGreatDoor
