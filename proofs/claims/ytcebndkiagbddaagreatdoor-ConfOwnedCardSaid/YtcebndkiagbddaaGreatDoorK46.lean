/- A part of the proof: contracts of functions and what they stand on. Written shorter and merged by a program (pack.py). -/
import Derived.Test.YtcebndkiagbddaaGreatDoorK42
set_option linter.unusedVariables false
set_option linter.unusedSimpArgs false
set_option maxRecDepth 100000
set_option maxHeartbeats 4000000
open List renaming length_set -> Qxo
namespace Go.Proofs.YtcebndkiagbddaaGreatDoor
section
open Go.RowKit
theorem Qox {c:ConfS} {at_:List UInt8} {t:List UInt8} (hl:c.ps.length<=6) (hk:Qq c.ps t = -1):Cf Tryz.prog 70 [(0,.box [.s c.k,.i c.port,.osl 1 c.ps.length] 25),(1,.rz (c.ps).length 5 (fun u v=>Qe ((c.ps).getD u Qa) v) 33 0)] [.own 0 0,.s at_,.agg [.i 1,.s t,.i 0,.u32 0,.i 0]] [(0,.box [.s t,.i c.port,.osl 1 c.ps.length] 25),(1,.rz (c.ps).length 5 (fun u v=>Qe ((c.ps).getD u Qa) v) 33 0)] (.tup [.s [],.i 0]):=by
 refine QJ {} Tryz.func70 Tryz.ntmps70 ?_;refine clX (Qoo (c:=c) hl hk) ?_
 repeat refine o1 ?_
 refine knT ?_
 repeat refine o1 ?_
 trivial
theorem Qoy {c:ConfS} {at_:List UInt8} {t:List UInt8} {i:Nat} (hl:c.ps.length<=6) (hk:Qq c.ps t=(i:Int)):Cf Tryz.prog 70 [(0,.box [.s c.k,.i c.port,.osl 1 c.ps.length] 25),(1,.rz (c.ps).length 5 (fun u v=>Qe ((c.ps).getD u Qa) v) 33 0)] [.own 0 0,.s at_,.agg [.i 1,.s t,.i 0,.u32 0,.i 0]] [(0,.box [.s c.k,.i c.port,.osl 1 c.ps.length] 25),(1,.rz (c.ps).length 5 (fun u v=>Qe ((c.ps).getD u Qa) v) 33 0)] (.tup [.s [],.i 14]):=by
 refine QJ {} Tryz.func70 Tryz.ntmps70 ?_;refine clX (Qop (c:=c) hl hk) ?_
 repeat refine o1 ?_
 refine knT ?_
 repeat refine o1 ?_
 trivial
theorem QrB {c:ConfS} {at_:List UInt8} {n:Int}:Cf Tryz.prog 70 [(0,.box [.s c.k,.i c.port,.osl 1 c.ps.length] 25),(1,.rz (c.ps).length 5 (fun u v=>Qe ((c.ps).getD u Qa) v) 33 0)] [.own 0 0,.s at_,.agg [.i 2,.s [],.i n,.u32 0,.i 0]] [(0,.box [.s c.k,.i n,.osl 1 c.ps.length] 25),(1,.rz (c.ps).length 5 (fun u v=>Qe ((c.ps).getD u Qa) v) 33 0)] (.tup [.s [],.i 0]):=by
 refine QJ {} Tryz.func70 Tryz.ntmps70 ?_;refine clX (Qoq (c:=c) (n:=n)) ?_
 repeat refine o1 ?_
 refine knT ?_
 repeat refine o1 ?_
 trivial
theorem QrC {c:ConfS} {at_:List UInt8}:Cf Tryz.prog 70 [(0,.box [.s c.k,.i c.port,.osl 1 c.ps.length] 25),(1,.rz (c.ps).length 5 (fun u v=>Qe ((c.ps).getD u Qa) v) 33 0)] [.own 0 0,.s at_,.agg [.i 3,.s [],.i 0,.u32 0,.i 0]] [(0,.box [.s c.k,.i c.port,.nil] 25)] (.tup [.s [],.i 0]):=by
 refine QJ {} Tryz.func70 Tryz.ntmps70 ?_;refine clX (QuL (c:=c)) ?_
 repeat refine o1 ?_
 refine knT ?_
 repeat refine o0 ?_
 trivial
theorem Qoz {c:ConfS} {at_:List UInt8}:Cf Tryz.prog 70 [(0,.box [.s c.k,.i c.port,.osl 1 c.ps.length] 25),(1,.rz (c.ps).length 5 (fun u v=>Qe ((c.ps).getD u Qa) v) 33 0)] [.own 0 0,.s at_,.agg [.i 4,.s c.k,.i 0,.u32 0,.i 0]] [(0,.box [.s c.k,.i c.port,.osl 1 c.ps.length] 25),(1,.rz (c.ps).length 5 (fun u v=>Qe ((c.ps).getD u Qa) v) 33 0)] (.tup [.s c.k,.i 14]):=by
 refine QJ {} Tryz.func70 Tryz.ntmps70 ?_;refine clX (WV (c:=c) (k:=4) (n:=0) (b:=0) (t:=c.k) (a:=0) (by decide)) ?_
 repeat refine o1 ?_
 refine knF (knT ?_);refine ⟨[0,1,0,0,8,28,63,127],by kernel_rfl,?_⟩;refine clX (Qk6 (c:=c)) ?_
 repeat refine o1 ?_
 trivial
theorem QoA {c:ConfS} {at_:List UInt8} {t:List UInt8} {i:Nat} (hl:c.ps.length<=6) (hk:Qq c.ps t=(i:Int)) (hn:t≠c.k):Cf Tryz.prog 70 [(0,.box [.s c.k,.i c.port,.osl 1 c.ps.length] 25),(1,.rz (c.ps).length 5 (fun u v=>Qe ((c.ps).getD u Qa) v) 33 0)] [.own 0 0,.s at_,.agg [.i 4,.s t,.i 0,.u32 0,.i 0]] [(0,.box [.s c.k,.i c.port,.osl 1 c.ps.length] 25),(1,.rz (c.ps).length 5 (fun u v=>Qe ((c.ps).getD u Qa) v) 33 0)] (.tup [.s t,.i 0]):=by
 refine QJ {} Tryz.func70 Tryz.ntmps70 ?_;refine clX (WV (c:=c) (k:=4) (n:=0) (b:=0) (t:=t) (a:=0) (by decide)) ?_
 repeat refine o1 ?_
 refine knF (knT ?_);refine ⟨[0,1,0,0,8,28,63,127],by kernel_rfl,?_⟩;refine clX (Qou (c:=c) hl hk hn) ?_
 repeat refine o1 ?_
 trivial
theorem QoB {c:ConfS} {at_:List UInt8} {t:List UInt8} (hl:c.ps.length=6) (hk:Qq c.ps t = -1) (hn:t≠c.k):Cf Tryz.prog 70 [(0,.box [.s c.k,.i c.port,.osl 1 c.ps.length] 25),(1,.rz (c.ps).length 5 (fun u v=>Qe ((c.ps).getD u Qa) v) 33 0)] [.own 0 0,.s at_,.agg [.i 4,.s t,.i 0,.u32 0,.i 0]] [(0,.box [.s c.k,.i c.port,.osl 1 c.ps.length] 25),(1,.rz (c.ps).length 5 (fun u v=>Qe ((c.ps).getD u Qa) v) 33 0)] (.tup [.s t,.i 7]):=by
 refine QJ {} Tryz.func70 Tryz.ntmps70 ?_;refine clX (WV (c:=c) (k:=4) (n:=0) (b:=0) (t:=t) (a:=0) (by decide)) ?_
 repeat refine o1 ?_
 refine knF (knT ?_);refine ⟨[0,1,0,0,8,28,63,127],by kernel_rfl,?_⟩;refine clX (Qov (c:=c) hl hk hn) ?_
 repeat refine o1 ?_
 trivial
theorem QoC {c:ConfS} {at_:List UInt8} {t:List UInt8} (hl:c.ps.length < 6) (hk:Qq c.ps t = -1) (hn:t≠c.k) (hi:Z3 c.ps):Cf Tryz.prog 70 [(0,.box [.s c.k,.i c.port,.osl 1 c.ps.length] 25),(1,.rz (c.ps).length 5 (fun u v=>Qe ((c.ps).getD u Qa) v) 33 0)] [.own 0 0,.s at_,.agg [.i 4,.s t,.i 0,.u32 0,.i 0]] [(0,.box [.s c.k,.i c.port,.osl 7200 (Xy c.ps (lbP c.ps t) ⟨t,[],[],0,[]⟩).length] 25),(7200,.rz (Xy c.ps (lbP c.ps t) ⟨t,[],[],0,[]⟩).length 5 (fun u v=>Qe ((Xy c.ps (lbP c.ps t) ⟨t,[],[],0,[]⟩).getD u Qa) v) 33 0)] (.tup [.s t,.i 0]):=by
 refine QJ {} Tryz.func70 Tryz.ntmps70 ?_;refine clX (WV (c:=c) (k:=4) (n:=0) (b:=0) (t:=t) (a:=0) (by decide)) ?_
 repeat refine o1 ?_
 refine knF (knT ?_);refine ⟨[0,1,0,0,8,28,63,127],by kernel_rfl,?_⟩;refine clX (Qow (c:=c) hl hk hn hi) ?_
 repeat refine o1 ?_
 trivial
theorem QrD {c:ConfS} {at_:List UInt8} {t:List UInt8} {i:Nat} (hl:c.ps.length<=6) (ha:at_≠[]) (hi:i < c.ps.length) (hk:Qq c.ps at_=(i:Int)):Cf Tryz.prog 70 [(0,.box [.s c.k,.i c.port,.osl 1 c.ps.length] 25),(1,.rz (c.ps).length 5 (fun u v=>Qe ((c.ps).getD u Qa) v) 33 0)] [.own 0 0,.s at_,.agg [.i 6,.s t,.i 0,.u32 0,.i 0]] [(0,.box [.s c.k,.i c.port,.osl 1 (c.ps.set i ⟨(c.ps.getD i Qa).k,t,(c.ps.getD i Qa).e,(c.ps.getD i Qa).a,(c.ps.getD i Qa).ns⟩).length] 25),(1,.rz (c.ps.set i ⟨(c.ps.getD i Qa).k,t,(c.ps.getD i Qa).e,(c.ps.getD i Qa).a,(c.ps.getD i Qa).ns⟩).length 5 (fun u v=>Qe ((c.ps.set i ⟨(c.ps.getD i Qa).k,t,(c.ps.getD i Qa).e,(c.ps.getD i Qa).a,(c.ps.getD i Qa).ns⟩).getD u Qa) v) 33 0)] (.tup [.s at_,.i 0]):=by
 have hst:∀ a,a < c.ps.length -> ∀ b,b < 5->stZ (fun a b=>Qe (c.ps.getD a Qa) b) i 1 [EV.s t] a b=Qe ((c.ps.set i ⟨(c.ps.getD i Qa).k,t,(c.ps.getD i Qa).e,(c.ps.getD i Qa).a,(c.ps.getD i Qa).ns⟩).getD a Qa) b:=QuM Qg0 (by rw [V9 hi];exact b5 (fun _=>rfl) (fun h=>absurd rfl h) (fun _=>rfl) (fun _=>rfl) (fun _=>rfl)) (by rw [V9 hi];rfl);have hsl:(c.ps.set i ⟨(c.ps.getD i Qa).k,t,(c.ps.getD i Qa).e,(c.ps.getD i Qa).a,(c.ps.getD i Qa).ns⟩).length=c.ps.length:=Qxo;refine QJ {} Tryz.func70 Tryz.ntmps70 ?_;refine clX (WV (c:=c) (k:=6) (n:=0) (b:=0) (t:=t) (a:=0) (by decide)) ?_
 repeat refine o1 ?_
 refine knF (knF ?_);refine clX (X5 (c:=c) hl ha hi hk) ?_
 repeat refine o1 ?_
 refine knF (knF (knT ?_))
 repeat refine o48 ?_
 trivial
theorem QrE {c:ConfS} {at_:List UInt8} {t:List UInt8} {i:Nat} (hl:c.ps.length<=6) (ha:at_≠[]) (hi:i < c.ps.length) (hk:Qq c.ps at_=(i:Int)):Cf Tryz.prog 70 [(0,.box [.s c.k,.i c.port,.osl 1 c.ps.length] 25),(1,.rz (c.ps).length 5 (fun u v=>Qe ((c.ps).getD u Qa) v) 33 0)] [.own 0 0,.s at_,.agg [.i 7,.s t,.i 0,.u32 0,.i 0]] [(0,.box [.s c.k,.i c.port,.osl 1 (c.ps.set i ⟨(c.ps.getD i Qa).k,(c.ps.getD i Qa).s,t,(c.ps.getD i Qa).a,(c.ps.getD i Qa).ns⟩).length] 25),(1,.rz (c.ps.set i ⟨(c.ps.getD i Qa).k,(c.ps.getD i Qa).s,t,(c.ps.getD i Qa).a,(c.ps.getD i Qa).ns⟩).length 5 (fun u v=>Qe ((c.ps.set i ⟨(c.ps.getD i Qa).k,(c.ps.getD i Qa).s,t,(c.ps.getD i Qa).a,(c.ps.getD i Qa).ns⟩).getD u Qa) v) 33 0)] (.tup [.s at_,.i 0]):=by
 have hst:∀ a,a < c.ps.length -> ∀ b,b < 5->stZ (fun a b=>Qe (c.ps.getD a Qa) b) i 2 [EV.s t] a b=Qe ((c.ps.set i ⟨(c.ps.getD i Qa).k,(c.ps.getD i Qa).s,t,(c.ps.getD i Qa).a,(c.ps.getD i Qa).ns⟩).getD a Qa) b:=QuM Qg0 (by rw [V9 hi];exact b5 (fun _=>rfl) (fun _=>rfl) (fun h=>absurd rfl h) (fun _=>rfl) (fun _=>rfl)) (by rw [V9 hi];rfl);have hsl:(c.ps.set i ⟨(c.ps.getD i Qa).k,(c.ps.getD i Qa).s,t,(c.ps.getD i Qa).a,(c.ps.getD i Qa).ns⟩).length=c.ps.length:=Qxo;refine QJ {} Tryz.func70 Tryz.ntmps70 ?_;refine clX (WV (c:=c) (k:=7) (n:=0) (b:=0) (t:=t) (a:=0) (by decide)) ?_
 repeat refine o1 ?_
 refine knF (knF ?_);refine clX (X5 (c:=c) hl ha hi hk) ?_
 repeat refine o1 ?_
 refine knF (knF (knF (knT ?_)))
 repeat refine o48 ?_
 trivial
theorem QrF {c:ConfS} {at_:List UInt8} {n:Int} {i:Nat} (hl:c.ps.length<=6) (ha:at_≠[]) (hi:i < c.ps.length) (hk:Qq c.ps at_=(i:Int)):Cf Tryz.prog 70 [(0,.box [.s c.k,.i c.port,.osl 1 c.ps.length] 25),(1,.rz (c.ps).length 5 (fun u v=>Qe ((c.ps).getD u Qa) v) 33 0)] [.own 0 0,.s at_,.agg [.i 8,.s [],.i n,.u32 0,.i 0]] [(0,.box [.s c.k,.i c.port,.osl 1 (c.ps.set i ⟨(c.ps.getD i Qa).k,(c.ps.getD i Qa).s,(c.ps.getD i Qa).e,n,(c.ps.getD i Qa).ns⟩).length] 25),(1,.rz (c.ps.set i ⟨(c.ps.getD i Qa).k,(c.ps.getD i Qa).s,(c.ps.getD i Qa).e,n,(c.ps.getD i Qa).ns⟩).length 5 (fun u v=>Qe ((c.ps.set i ⟨(c.ps.getD i Qa).k,(c.ps.getD i Qa).s,(c.ps.getD i Qa).e,n,(c.ps.getD i Qa).ns⟩).getD u Qa) v) 33 0)] (.tup [.s at_,.i 0]):=by
 have hst:∀ a,a < c.ps.length -> ∀ b,b < 5->stZ (fun a b=>Qe (c.ps.getD a Qa) b) i 3 [EV.i n] a b=Qe ((c.ps.set i ⟨(c.ps.getD i Qa).k,(c.ps.getD i Qa).s,(c.ps.getD i Qa).e,n,(c.ps.getD i Qa).ns⟩).getD a Qa) b:=QuM Qg0 (by rw [V9 hi];exact b5 (fun _=>rfl) (fun _=>rfl) (fun _=>rfl) (fun h=>absurd rfl h) (fun _=>rfl)) (by rw [V9 hi];rfl);have hsl:(c.ps.set i ⟨(c.ps.getD i Qa).k,(c.ps.getD i Qa).s,(c.ps.getD i Qa).e,n,(c.ps.getD i Qa).ns⟩).length=c.ps.length:=Qxo;refine QJ {} Tryz.func70 Tryz.ntmps70 ?_;refine clX (WV (c:=c) (k:=8) (n:=n) (b:=0) (t:=[]) (a:=0) (by decide)) ?_
 repeat refine o1 ?_
 refine knF (knF ?_);refine clX (X5 (c:=c) hl ha hi hk) ?_
 repeat refine o1 ?_
 refine knF (knF (knF (knF (knT ?_))))
 repeat refine o48 ?_
 trivial
theorem QrG {c:ConfS} {at_:List UInt8} {i:Nat} (hl:c.ps.length<=6) (ha:at_≠[]) (hi:i < c.ps.length) (hk:Qq c.ps at_=(i:Int)):Cf Tryz.prog 70 [(0,.box [.s c.k,.i c.port,.osl 1 c.ps.length] 25),(1,.rz (c.ps).length 5 (fun u v=>Qe ((c.ps).getD u Qa) v) 33 0)] [.own 0 0,.s at_,.agg [.i 9,.s [],.i 0,.u32 0,.i 0]] [(0,.box [.s c.k,.i c.port,.osl 1 (c.ps.set i ⟨(c.ps.getD i Qa).k,(c.ps.getD i Qa).s,(c.ps.getD i Qa).e,(c.ps.getD i Qa).a,[]⟩).length] 25),(1,.rz (c.ps.set i ⟨(c.ps.getD i Qa).k,(c.ps.getD i Qa).s,(c.ps.getD i Qa).e,(c.ps.getD i Qa).a,[]⟩).length 5 (fun u v=>Qe ((c.ps.set i ⟨(c.ps.getD i Qa).k,(c.ps.getD i Qa).s,(c.ps.getD i Qa).e,(c.ps.getD i Qa).a,[]⟩).getD u Qa) v) 33 0)] (.tup [.s at_,.i 0]):=by
 have hst:∀ a,a < c.ps.length -> ∀ b,b < 5->stZ (fun a b=>Qe (c.ps.getD a Qa) b) i 4 [Wm []] a b=Qe ((c.ps.set i ⟨(c.ps.getD i Qa).k,(c.ps.getD i Qa).s,(c.ps.getD i Qa).e,(c.ps.getD i Qa).a,[]⟩).getD a Qa) b:=QuM Qg0 (by rw [V9 hi];exact b5 (fun _=>rfl) (fun _=>rfl) (fun _=>rfl) (fun _=>rfl) (fun h=>absurd rfl h)) (by rw [V9 hi];rfl);have hsl:(c.ps.set i ⟨(c.ps.getD i Qa).k,(c.ps.getD i Qa).s,(c.ps.getD i Qa).e,(c.ps.getD i Qa).a,[]⟩).length=c.ps.length:=Qxo;refine QJ {nz:=[(76,0,Wm [])]} Tryz.func70 Tryz.ntmps70 ?_;refine clX (WV (c:=c) (k:=9) (n:=0) (b:=0) (t:=[]) (a:=0) (by decide)) ?_
 repeat refine o1 ?_
 refine knF (knF ?_);refine clX (X5 (c:=c) hl ha hi hk) ?_
 repeat refine o1 ?_
 refine knF (knF (knF (knF (knF (knT ?_)))))
 repeat refine o48 ?_
 trivial
theorem QoD {c:ConfS} {at_:List UInt8} (hk:Qq c.ps at_ = -1) {k n b:Int} {t:List UInt8} {a:UInt32} (h5:5<=k) (hl:c.ps.length<=6):Cf Tryz.prog 70 [(0,.box [.s c.k,.i c.port,.osl 1 c.ps.length] 25),(1,.rz (c.ps).length 5 (fun u v=>Qe ((c.ps).getD u Qa) v) 33 0)] [.own 0 0,.s at_,.agg [.i k,.s t,.i n,.u32 a,.i b]] [(0,.box [.s c.k,.i c.port,.osl 1 c.ps.length] 25),(1,.rz (c.ps).length 5 (fun u v=>Qe ((c.ps).getD u Qa) v) 33 0)] (.tup [.s [],.i 13]):=by
 refine QJ {} Tryz.func70 Tryz.ntmps70 ?_;refine clX (WV (c:=c) (k:=k) (n:=n) (b:=b) (t:=t) (a:=a) (by omega)) ?_
 repeat refine o1 ?_
 refine knF ?_;refine ⟨fun h2=>?_,fun h2=>?_⟩
 ·skip
  have c2:=h2
  (simp only [bsX] at c2)
  exact absurd c2 (by omega)
 ·skip
  have c2:=h2
  (simp only [bsX] at c2)
  refine clX (Qor (c:=c) (at_:=at_) hl hk) ?_
  repeat refine o1 ?_
  refine knT ?_
  repeat refine o1 ?_
  trivial
theorem QoE {c:ConfS} {k n b:Int} {t:List UInt8} {a:UInt32} (h5:5<=k) (hl:c.ps.length<=6):Cf Tryz.prog 70 [(0,.box [.s c.k,.i c.port,.osl 1 c.ps.length] 25),(1,.rz (c.ps).length 5 (fun u v=>Qe ((c.ps).getD u Qa) v) 33 0)] [.own 0 0,.s [],.agg [.i k,.s t,.i n,.u32 a,.i b]] [(0,.box [.s c.k,.i c.port,.osl 1 c.ps.length] 25),(1,.rz (c.ps).length 5 (fun u v=>Qe ((c.ps).getD u Qa) v) 33 0)] (.tup [.s [],.i 13]):=by
 refine QJ {} Tryz.func70 Tryz.ntmps70 ?_;refine clX (WV (c:=c) (k:=k) (n:=n) (b:=b) (t:=t) (a:=a) (by omega)) ?_
 repeat refine o1 ?_
 refine knF ?_;refine ⟨fun h2=>?_,fun h2=>?_⟩
 ·skip
  have c2:=h2
  (simp only [bsX] at c2)
  exact absurd c2 (by omega)
 ·skip
  have c2:=h2
  (simp only [bsX] at c2)
  refine clX (Qos (c:=c) hl) ?_
  repeat refine o1 ?_
  refine knT ?_
  repeat refine o1 ?_
  trivial
end
end Go.Proofs.YtcebndkiagbddaaGreatDoor
