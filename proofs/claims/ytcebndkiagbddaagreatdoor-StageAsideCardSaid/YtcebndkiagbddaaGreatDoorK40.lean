/- A part of the proof: contracts of functions and what they stand on. Written shorter and merged by a program (pack.py). -/
import Derived.Test.YtcebndkiagbddaaGreatDoorK39
import Derived.Test.YtcebndkiagbddaaGreatDoorK38
set_option linter.unusedVariables false
set_option linter.unusedSimpArgs false
set_option maxRecDepth 100000
set_option maxHeartbeats 4000000
open List renaming pairwise_cons → Qy3, mem_cons_self → Qy4, mem_cons → Qy5, getD_eq_getElem?_getD → Qy6, mem_cons_of_mem → Qy8
open List.Sublist renaming refl → Qy7
open Option renaming some → Qy9
namespace Go.Proofs.YtcebndkiagbddaaGreatDoor
section
open Go.RowKit
theorem hl3 {c:ConfS} (h:ConfOk c):c.ps.length≤1000:=Nat.le_trans h.pl (by decide)
theorem h86 {c:ConfS} (h:ConfOk c):∀ p∈c.ps,p.ns.length≤1000000:=fun p hp=>Nat.le_trans (h.ps p hp).1.nl (by decide)
theorem QS {s:SetS} (h:Qx s):Cf Tryz.prog 69 [] [Z9 s] [] (.i 0):=by
 have k:=QhR (Xz h.1 h.2);rw [h.1] at k;exact k
theorem QqU {c:ConfS} {at_:List UInt8} {t:List UInt8} (hk:Qv c.ps t = -1) (h:ConfOk c) (hs:Qx ⟨1,t,0,[]⟩) (ho:ConfOk ⟨t,c.port,c.ps⟩):Cf Tryz.prog 26 [] [Qp c,.s at_,Z9 ⟨1,t,0,[]⟩] [] (.tup [Qp ⟨t,c.port,c.ps⟩,.s [],.i 0]):=by
 refine Qs {} Tryz.func26 Tryz.ntmps26 ?_;refine clX (Qh h) ?_
 repeat refine o1 ?_
 refine knF ?_;refine clX (QS hs) ?_
 repeat refine o0 ?_
 refine knF ?_;refine clX (QK (c:=c) (hl3 h) (h86 h)) ?_
 repeat refine o1 ?_
 refine clX (QqH (c:=c) (at_:=at_) h.pl hk) ?_
 repeat refine o2 ?_
 refine knF ?_;refine clX (QK (c:=⟨t,c.port,c.ps⟩) (hl3 ho) (h86 ho)) ?_
 repeat refine o1 ?_
 trivial
theorem QqV {c:ConfS} {at_:List UInt8} {t:List UInt8} {i:Nat} (hk:Qv c.ps t=(i:Int)) (h:ConfOk c) (hs:Qx ⟨1,t,0,[]⟩):Cf Tryz.prog 26 [] [Qp c,.s at_,Z9 ⟨1,t,0,[]⟩] [] (.tup [Qp Q4,.s [],.i 14]):=by
 refine Qs {} Tryz.func26 Tryz.ntmps26 ?_;refine clX (Qh h) ?_
 repeat refine o1 ?_
 refine knF ?_;refine clX (QS hs) ?_
 repeat refine o0 ?_
 refine knF ?_;refine clX (QK (c:=c) (hl3 h) (h86 h)) ?_
 repeat refine o1 ?_
 refine clX (QqI (c:=c) (at_:=at_) h.pl hk) ?_
 repeat refine o2 ?_
 refine knT ?_
 repeat refine o0 ?_
 trivial
theorem QtU {c:ConfS} {at_:List UInt8} {n:Int} (h:ConfOk c) (hs:Qx ⟨2,[],n,[]⟩) (ho:ConfOk ⟨c.k,n,c.ps⟩):Cf Tryz.prog 26 [] [Qp c,.s at_,Z9 ⟨2,[],n,[]⟩] [] (.tup [Qp ⟨c.k,n,c.ps⟩,.s [],.i 0]):=by
 refine Qs {} Tryz.func26 Tryz.ntmps26 ?_;refine clX (Qh h) ?_
 repeat refine o1 ?_
 refine knF ?_;refine clX (QS hs) ?_
 repeat refine o0 ?_
 refine knF ?_;refine clX (QK (c:=c) (hl3 h) (h86 h)) ?_
 repeat refine o1 ?_
 refine clX (QtA (c:=c) (at_:=at_) (n:=n)) ?_
 repeat refine o2 ?_
 refine knF ?_;refine clX (QK (c:=⟨c.k,n,c.ps⟩) (hl3 ho) (h86 ho)) ?_
 repeat refine o1 ?_
 trivial
theorem QtV {c:ConfS} {at_:List UInt8} (h:ConfOk c) (hs:Qx ⟨3,[],0,[]⟩) (ho:ConfOk ⟨c.k,c.port,[]⟩):Cf Tryz.prog 26 [] [Qp c,.s at_,Z9 ⟨3,[],0,[]⟩] [] (.tup [Qp ⟨c.k,c.port,[]⟩,.s [],.i 0]):=by
 refine Qs {} Tryz.func26 Tryz.ntmps26 ?_;refine clX (Qh h) ?_
 repeat refine o1 ?_
 refine knF ?_;refine clX (QS hs) ?_
 repeat refine o0 ?_
 refine knF ?_;refine clX (QK (c:=c) (hl3 h) (h86 h)) ?_
 repeat refine o1 ?_
 refine clX (QtB (c:=c) (at_:=at_)) ?_
 repeat refine o2 ?_
 refine knF ?_;refine clX (QK (c:=⟨c.k,c.port,[]⟩) (hl3 ho) (h86 ho)) ?_
 repeat refine o1 ?_
 trivial
theorem QqW {c:ConfS} {at_:List UInt8} (h:ConfOk c) (hs:Qx ⟨4,c.k,0,[]⟩):Cf Tryz.prog 26 [] [Qp c,.s at_,Z9 ⟨4,c.k,0,[]⟩] [] (.tup [Qp Q4,.s [],.i 14]):=by
 refine Qs {} Tryz.func26 Tryz.ntmps26 ?_;refine clX (Qh h) ?_
 repeat refine o1 ?_
 refine knF ?_;refine clX (QS hs) ?_
 repeat refine o0 ?_
 refine knF ?_;refine clX (QK (c:=c) (hl3 h) (h86 h)) ?_
 repeat refine o1 ?_
 refine clX (QqJ (c:=c) (at_:=at_)) ?_
 repeat refine o2 ?_
 refine knT ?_
 repeat refine o0 ?_
 trivial
theorem QqX {c:ConfS} {at_:List UInt8} {t:List UInt8} {i:Nat} (hk:Qv c.ps t=(i:Int)) (hn:t≠c.k) (h:ConfOk c) (hs:Qx ⟨4,t,0,[]⟩) (ho:ConfOk c):Cf Tryz.prog 26 [] [Qp c,.s at_,Z9 ⟨4,t,0,[]⟩] [] (.tup [Qp c,.s t,.i 0]):=by
 refine Qs {} Tryz.func26 Tryz.ntmps26 ?_;refine clX (Qh h) ?_
 repeat refine o1 ?_
 refine knF ?_;refine clX (QS hs) ?_
 repeat refine o0 ?_
 refine knF ?_;refine clX (QK (c:=c) (hl3 h) (h86 h)) ?_
 repeat refine o1 ?_
 refine clX (QqK (c:=c) (at_:=at_) h.pl hk hn) ?_
 repeat refine o2 ?_
 refine knF ?_;refine clX (QK (c:=c) (hl3 ho) (h86 ho)) ?_
 repeat refine o1 ?_
 trivial
theorem QqY {c:ConfS} {at_:List UInt8} {t:List UInt8} (hl:c.ps.length=6) (hk:Qv c.ps t = -1) (hn:t≠c.k) (h:ConfOk c) (hs:Qx ⟨4,t,0,[]⟩):Cf Tryz.prog 26 [] [Qp c,.s at_,Z9 ⟨4,t,0,[]⟩] [] (.tup [Qp Q4,.s [],.i 7]):=by
 refine Qs {} Tryz.func26 Tryz.ntmps26 ?_;refine clX (Qh h) ?_
 repeat refine o1 ?_
 refine knF ?_;refine clX (QS hs) ?_
 repeat refine o0 ?_
 refine knF ?_;refine clX (QK (c:=c) (hl3 h) (h86 h)) ?_
 repeat refine o1 ?_
 refine clX (QqL (c:=c) (at_:=at_) hl hk hn) ?_
 repeat refine o2 ?_
 refine knT ?_
 repeat refine o0 ?_
 trivial
theorem QqZ {c:ConfS} {at_:List UInt8} {t:List UInt8} (hl:c.ps.length < 6) (hk:Qv c.ps t = -1) (hn:t≠c.k) (h:ConfOk c) (hs:Qx ⟨4,t,0,[]⟩) (ho:ConfOk (Qer c t)):Cf Tryz.prog 26 [] [Qp c,.s at_,Z9 ⟨4,t,0,[]⟩] [] (.tup [Qp (Qer c t),.s t,.i 0]):=by
 refine Qs {} Tryz.func26 Tryz.ntmps26 ?_;refine clX (Qh h) ?_
 repeat refine o1 ?_
 refine knF ?_;refine clX (QS hs) ?_
 repeat refine o0 ?_
 refine knF ?_;refine clX (QK (c:=c) (hl3 h) (h86 h)) ?_
 repeat refine o1 ?_
 refine clX (QqM (c:=c) (at_:=at_) hl hk hn (WZ.1 h.inc)) ?_
 repeat refine o2 ?_
 refine knF ?_;refine clX (QK (c:=(Qer c t)) (hl3 ho) (h86 ho)) ?_
 repeat refine o1 ?_
 trivial
theorem QtW {c:ConfS} {at_:List UInt8} {t:List UInt8} {i:Nat} (ha:at_≠[]) (hi:i < c.ps.length) (hk:Qv c.ps at_=(i:Int)) (h:ConfOk c) (hs:Qx ⟨6,t,0,[]⟩) (ho:ConfOk (Qac c i ⟨(c.ps.getD i Qa).k,t,(c.ps.getD i Qa).e,(c.ps.getD i Qa).a,(c.ps.getD i Qa).ns⟩)):Cf Tryz.prog 26 [] [Qp c,.s at_,Z9 ⟨6,t,0,[]⟩] [] (.tup [Qp (Qac c i ⟨(c.ps.getD i Qa).k,t,(c.ps.getD i Qa).e,(c.ps.getD i Qa).a,(c.ps.getD i Qa).ns⟩),.s at_,.i 0]):=by
 refine Qs {} Tryz.func26 Tryz.ntmps26 ?_;refine clX (Qh h) ?_
 repeat refine o1 ?_
 refine knF ?_;refine clX (QS hs) ?_
 repeat refine o0 ?_
 refine knF ?_;refine clX (QK (c:=c) (hl3 h) (h86 h)) ?_
 repeat refine o1 ?_
 refine clX (QtC (c:=c) (at_:=at_) (t:=t) h.pl ha hi hk) ?_
 repeat refine o2 ?_
 refine knF ?_;refine clX (QK (c:=(Qac c i ⟨(c.ps.getD i Qa).k,t,(c.ps.getD i Qa).e,(c.ps.getD i Qa).a,(c.ps.getD i Qa).ns⟩)) (hl3 ho) (h86 ho)) ?_
 repeat refine o1 ?_
 trivial
theorem QtX {c:ConfS} {at_:List UInt8} {t:List UInt8} {i:Nat} (ha:at_≠[]) (hi:i < c.ps.length) (hk:Qv c.ps at_=(i:Int)) (h:ConfOk c) (hs:Qx ⟨7,t,0,[]⟩) (ho:ConfOk (Qac c i ⟨(c.ps.getD i Qa).k,(c.ps.getD i Qa).s,t,(c.ps.getD i Qa).a,(c.ps.getD i Qa).ns⟩)):Cf Tryz.prog 26 [] [Qp c,.s at_,Z9 ⟨7,t,0,[]⟩] [] (.tup [Qp (Qac c i ⟨(c.ps.getD i Qa).k,(c.ps.getD i Qa).s,t,(c.ps.getD i Qa).a,(c.ps.getD i Qa).ns⟩),.s at_,.i 0]):=by
 refine Qs {} Tryz.func26 Tryz.ntmps26 ?_;refine clX (Qh h) ?_
 repeat refine o1 ?_
 refine knF ?_;refine clX (QS hs) ?_
 repeat refine o0 ?_
 refine knF ?_;refine clX (QK (c:=c) (hl3 h) (h86 h)) ?_
 repeat refine o1 ?_
 refine clX (QtD (c:=c) (at_:=at_) (t:=t) h.pl ha hi hk) ?_
 repeat refine o2 ?_
 refine knF ?_;refine clX (QK (c:=(Qac c i ⟨(c.ps.getD i Qa).k,(c.ps.getD i Qa).s,t,(c.ps.getD i Qa).a,(c.ps.getD i Qa).ns⟩)) (hl3 ho) (h86 ho)) ?_
 repeat refine o1 ?_
 trivial
theorem QtY {c:ConfS} {at_:List UInt8} {n:Int} {i:Nat} (ha:at_≠[]) (hi:i < c.ps.length) (hk:Qv c.ps at_=(i:Int)) (h:ConfOk c) (hs:Qx ⟨8,[],n,[]⟩) (ho:ConfOk (Qac c i ⟨(c.ps.getD i Qa).k,(c.ps.getD i Qa).s,(c.ps.getD i Qa).e,n,(c.ps.getD i Qa).ns⟩)):Cf Tryz.prog 26 [] [Qp c,.s at_,Z9 ⟨8,[],n,[]⟩] [] (.tup [Qp (Qac c i ⟨(c.ps.getD i Qa).k,(c.ps.getD i Qa).s,(c.ps.getD i Qa).e,n,(c.ps.getD i Qa).ns⟩),.s at_,.i 0]):=by
 refine Qs {} Tryz.func26 Tryz.ntmps26 ?_;refine clX (Qh h) ?_
 repeat refine o1 ?_
 refine knF ?_;refine clX (QS hs) ?_
 repeat refine o0 ?_
 refine knF ?_;refine clX (QK (c:=c) (hl3 h) (h86 h)) ?_
 repeat refine o1 ?_
 refine clX (QtE (c:=c) (at_:=at_) (n:=n) h.pl ha hi hk) ?_
 repeat refine o2 ?_
 refine knF ?_;refine clX (QK (c:=(Qac c i ⟨(c.ps.getD i Qa).k,(c.ps.getD i Qa).s,(c.ps.getD i Qa).e,n,(c.ps.getD i Qa).ns⟩)) (hl3 ho) (h86 ho)) ?_
 repeat refine o1 ?_
 trivial
theorem QtZ {c:ConfS} {at_:List UInt8} {i:Nat} (ha:at_≠[]) (hi:i < c.ps.length) (hk:Qv c.ps at_=(i:Int)) (h:ConfOk c) (hs:Qx ⟨9,[],0,[]⟩) (ho:ConfOk (Qac c i ⟨(c.ps.getD i Qa).k,(c.ps.getD i Qa).s,(c.ps.getD i Qa).e,(c.ps.getD i Qa).a,[]⟩)):Cf Tryz.prog 26 [] [Qp c,.s at_,Z9 ⟨9,[],0,[]⟩] [] (.tup [Qp (Qac c i ⟨(c.ps.getD i Qa).k,(c.ps.getD i Qa).s,(c.ps.getD i Qa).e,(c.ps.getD i Qa).a,[]⟩),.s at_,.i 0]):=by
 refine Qs {} Tryz.func26 Tryz.ntmps26 ?_;refine clX (Qh h) ?_
 repeat refine o1 ?_
 refine knF ?_;refine clX (QS hs) ?_
 repeat refine o0 ?_
 refine knF ?_;refine clX (QK (c:=c) (hl3 h) (h86 h)) ?_
 repeat refine o1 ?_
 refine clX (QtF (c:=c) (at_:=at_) h.pl ha hi hk) ?_
 repeat refine o2 ?_
 refine knF ?_;refine clX (QK (c:=(Qac c i ⟨(c.ps.getD i Qa).k,(c.ps.getD i Qa).s,(c.ps.getD i Qa).e,(c.ps.getD i Qa).a,[]⟩)) (hl3 ho) (h86 ho)) ?_
 repeat refine o1 ?_
 trivial
theorem Qq0 {c:ConfS} {at_:List UInt8} {k n:Int} {t:List UInt8} {p:List Bool} (h5:5≤k) (hk:Qv c.ps at_ = -1) (h:ConfOk c) (hs:Qx ⟨k,t,n,p⟩):Cf Tryz.prog 26 [] [Qp c,.s at_,Z9 ⟨k,t,n,p⟩] [] (.tup [Qp Q4,.s [],.i 13]):=by
 refine Qs {} Tryz.func26 Tryz.ntmps26 ?_;refine clX (Qh h) ?_
 repeat refine o1 ?_
 refine knF ?_;refine clX (QS hs) ?_
 repeat refine o0 ?_
 refine knF ?_;refine clX (QK (c:=c) (hl3 h) (h86 h)) ?_
 repeat refine o1 ?_
 refine clX (QqN (c:=c) (at_:=at_) (k:=k) (n:=n) (b:=(p.length:Int)) (t:=t) (a:=adr p) hk h5 h.pl) ?_
 repeat refine o2 ?_
 refine knT ?_
 repeat refine o0 ?_
 trivial
theorem Qq1 {c:ConfS} {k n:Int} {t:List UInt8} {p:List Bool} (h5:5≤k) (h:ConfOk c) (hs:Qx ⟨k,t,n,p⟩):Cf Tryz.prog 26 [] [Qp c,.s [],Z9 ⟨k,t,n,p⟩] [] (.tup [Qp Q4,.s [],.i 13]):=by
 refine Qs {} Tryz.func26 Tryz.ntmps26 ?_;refine clX (Qh h) ?_
 repeat refine o1 ?_
 refine knF ?_;refine clX (QS hs) ?_
 repeat refine o0 ?_
 refine knF ?_;refine clX (QK (c:=c) (hl3 h) (h86 h)) ?_
 repeat refine o1 ?_
 refine clX (QqO (c:=c) (k:=k) (n:=n) (b:=(p.length:Int)) (t:=t) (a:=adr p) h5 h.pl) ?_
 repeat refine o2 ?_
 refine knT ?_
 repeat refine o0 ?_
 trivial
end
section
open Go.Lib
def QM (ps:List PeerS) (k:List UInt8):Option PeerS:=ps.find? fun p=>decide (p.k=k)
theorem Qt5 (k:List UInt8):QM [] k=none:=rfl
theorem VV {p:PeerS} {ps:List PeerS} {k:List UInt8} (h:p.k=k):QM (p::ps) k=some p:=by
 unfold QM;rw [List.find?_cons_of_pos (by simpa using h)]
theorem XK {p:PeerS} {ps:List PeerS} {k:List UInt8} (h:¬ p.k=k):QM (p::ps) k=QM ps k:=by
 unfold QM;rw [List.find?_cons_of_neg (by simpa using h)]
theorem X2 {ps:List PeerS} {k:List UInt8}:QM ps k=none ↔ ∀ p∈ps,p.k≠k:=by
 unfold QM;rw [List.find?_eq_none];simp
theorem Zr {ps:List PeerS} {k:List UInt8} {p:PeerS} (h:QM ps k=some p):p∈ps∧p.k=k:=by
 unfold QM at h;exact ⟨List.mem_of_find?_eq_some h,by simpa using List.find?_some h⟩
theorem Qgz (A B:List PeerS) (k:List UInt8):QM (A++B) k=(QM A k).or (QM B k):=by
 unfold QM;rw [List.find?_append]
theorem Qt6 {p:PeerS} {ps:List PeerS} (h:Yl (p::ps)):∀ q∈ps,p.k≠q.k:=fun q hq e=>by
 have:=(Qy3.1 h).1 q hq;rw [e] at this;exact (Qgo q.k q.k).2 this |>.2 rfl
theorem Xt:∀ {ps:List PeerS},Yl ps → ∀ {p:PeerS},p∈ps→QM ps p.k=some p
 | [],_,p,h=>absurd h (by simp)
 | q::ps,hi,p,h=>by
  rcases Qy5.1 h with e | e
  ·subst e;exact VV rfl
  ·rw [XK (Qt6 hi p e)];exact Xt (Qy3.1 hi).2 e
theorem Yn {ps:List PeerS} {k:List UInt8}:(QM ps k=none↔Qv ps k = -1):=by
 rw [X2];constructor
 ·intro h;rcases Vf ps k with q | ⟨i,hi,e,e2⟩
  ·exact q.1
  ·exact absurd e2 (h _ (Wy hi))
 ·exact X1
theorem Qpi {ps:List PeerS} (hp:Yl ps) {k:List UInt8} {p:PeerS} (h:QM ps k=some p):∃ i,i < ps.length∧Qv ps k=(i:Int)∧ps.getD i Qa=p:=by
 rcases Vf ps k with q | ⟨i,hi,e,e2⟩
 ·rw [Yn.2 q.1] at h;cases h
 ·refine ⟨i,hi,e,?_⟩;have:=Xt hp (Wy hi);rw [e2,h] at this;exact (Qy9.inj this).symm
theorem QyG:∀ {ps qs:List PeerS},Yl ps→Yl qs→(∀ k,QM ps k=QM qs k)→ps=qs:=fun {ps qs} h1 h2 h=>by
 have sub:∀ {a b:List PeerS},Yl a→(∀ k,QM a k=QM b k) → ∀ p∈a,p∈b:=fun ha hh p hp=>by
  have:=Xt ha hp;rw [hh] at this;exact (Zr this).1
 have lt_no:∀ p q:PeerS,cbK p.k q.k < 0→cbK q.k p.k < 0→False:=fun p q a b=>(Qgo p.k p.k).2 (Jr a b) |>.2 rfl
 have uniq:∀ {ps qs:List PeerS},Yl ps→Yl qs→(∀ p∈ps,p∈qs)→(∀ p∈qs,p∈ps)→ps=qs:=by
  intro ps
  induction ps with
  | nil=>intro qs _ _ _ h;cases qs with
   | nil=>rfl
   | cons q qs=>exact absurd (h q (Qy4 ..)) (by simp)
  | cons p ps ih =>
   intro qs h1 h2 h3 h4
   cases qs with
   | nil=>exact absurd (h3 p (Qy4 ..)) (by simp)
   | cons q qs =>
    obtain ⟨a1,a2⟩:=Qy3.1 h1;obtain ⟨b1,b2⟩:=Qy3.1 h2
    have e:p=q:=by
     rcases Qy5.1 (h3 p (Qy4 ..)) with k | k
     ·exact k
     ·rcases Qy5.1 (h4 q (Qy4 ..)) with k2 | k2
      ·exact k2.symm
      ·exact absurd (lt_no q p (b1 p k) (a1 q k2)) id
    subst e;rw [ih a2 b2 (fun x hx=>?_) (fun x hx=>?_)]
    ·rcases Qy5.1 (h3 x (Qy8 _ hx)) with k | k
     ·subst k;exact absurd (lt_no x x (a1 x hx) (a1 x hx)) id
     ·exact k
    ·rcases Qy5.1 (h4 x (Qy8 _ hx)) with k | k
     ·subst k;exact absurd (lt_no x x (b1 x hx) (b1 x hx)) id
     ·exact k
 exact uniq h1 h2 (sub h1 h) (sub h2 fun k=>(h k).symm)
theorem QlU {ps:List PeerS} {p:PeerS} (j:Nat) (hn:∀ q∈ps,q.k≠p.k) (k:List UInt8):QM (VT ps j p) k=if k=p.k then some p else QM ps k:=by
 unfold VT;rw [Qgz];by_cases h:k=p.k
 ·subst h;rw [if_pos rfl,X2.2 fun q hq=>hn q (List.mem_of_mem_take hq),VV rfl];rfl
 ·rw [if_neg h,XK (fun e=>h e.symm),← Qgz,List.take_append_drop]
theorem QgA:∀ {ps:List PeerS} {i:Nat} {p:PeerS},Yl ps→i < ps.length→p.k=(ps.getD i Qa).k → ∀ k,QM (ps.set i p) k=if k=p.k then some p else QM ps k
 | [],i,p,_,hi,_,_=>absurd hi (Nat.not_lt_zero _)
 | q::ps,0,p,hi,_,hk,k=>by
  show QM (p::ps) k=_;by_cases h:k=p.k
  ·subst h;rw [if_pos rfl,VV rfl]
  ·have hq:p.k=q.k:=hk;rw [if_neg h,XK (fun e=>h e.symm),XK (fun e=>h (by rw [← e,hq]))]
 | q::ps,i+1,p,hi,hl,hk,k=>by
  show QM (q::ps.set i p) k=_;have hl2:i < ps.length:=Nat.lt_of_succ_lt_succ hl;have hk2:p.k=(ps.getD i Qa).k:=hk;have ih:=QgA (Qy3.1 hi).2 hl2 hk2 k;by_cases h:q.k=k
  ·have hne:¬ k=p.k:=fun e=>Qt6 hi _ (Wy hl2) (by rw [h,e,hk2]);rw [VV h,if_neg hne,VV h]
  ·rw [XK h,ih,XK h]
theorem QhS (a:List UInt8):∀ (ps:List PeerS) (k:List UInt8),QM (Q8 a ps) k=if k=a then none else QM ps k
 | [],k=>by split <;> rfl
 | p::ps,k=>by
  have ih:=QhS a ps k;unfold Q8 at ih ⊢;by_cases h:p.k=a
  ·rw [List.filter_cons_of_neg (by simpa using h),ih];by_cases e:k=a
   ·rw [if_pos e,if_pos e]
   ·rw [if_neg e,if_neg e,XK (fun q=>e (q.symm.trans h))]
  ·rw [List.filter_cons_of_pos (by simpa using h)];by_cases q:p.k=k
   ·rw [VV q,if_neg (fun e=>h (q.trans e)),VV q]
   ·rw [XK q,ih,XK q]
theorem QlV (n:List Bool):∀ (ps:List PeerS) (k:List UInt8),QM (ps.map (ZJ n)) k=(QM ps k).map (ZJ n)
 | [],k=>rfl
 | p::ps,k=>by
  rw [List.map_cons];by_cases h:p.k=k
  ·rw [VV (p:=ZJ n p) h,VV h];rfl
  ·rw [XK (p:=ZJ n p) h,XK h,QlV n ps k]
def Qc0 (n:List Bool) (p:PeerS):PeerS:=⟨p.k,p.s,p.e,p.a,JS (QI p.ns n) (lbN (QI p.ns n) n) n⟩
theorem Jt {ps:List PeerS} {i:Nat} (f:PeerS→PeerS) (hi:i < ps.length):(ps.map f).getD i Qa=f (ps.getD i Qa):=by
 rw [Qy6,Qy6,List.getElem?_map,List.getElem?_eq_getElem hi];rfl
theorem QwL {ps:List PeerS} (n:List Bool) (h:Yl ps):Yl (ps.map (ZJ n)):=by
 rw [← WZ] at h ⊢;exact QcT (by rw [List.map_map];rfl) h
theorem QhT {ps:List PeerS} {i:Nat} (n:List Bool) (h:Yl ps) (hi:i < ps.length) (k:List UInt8):QM (Qq ps i n) k=if k=(ps.getD i Qa).k then some (Qc0 n (ps.getD i Qa)) else (QM ps k).map (ZJ n):=by
 unfold Qq;rw [JT,Jt _ hi];have hl:i < (ps.map (ZJ n)).length:=by rw [List.length_map];exact hi
 rw [QgA (QwL n h) hl (by rw [Jt _ hi]) k,QlV];rfl
theorem Qjm {n m:List Bool} {p:PeerS}:m∈(ZJ n p).ns↔m∈p.ns∧m≠n:=by
 show m∈QI p.ns n↔_;unfold QI;rw [List.mem_filter];simp
theorem Qt7 {n:List Bool} {p:PeerS} (h:n ∉ p.ns):ZJ n p=p:=by
 have:QI p.ns n=p.ns:=by
  unfold QI;rw [List.filter_eq_self];intro m hm;simp;exact fun e=>h (e ▸ hm)
 unfold ZJ;rw [this]
theorem QwM:∀ {ns:List (List Bool)} {n:List Bool},(∀ m∈ns,ltB m n=true)→lbN ns n=ns.length:=fun {ns n} h=>List.countP_eq_length.2 h
theorem QwN {n:List Bool} {p:PeerS} (h:∀ m∈p.ns,ltB m n=true):Qc0 n p=⟨p.k,p.s,p.e,p.a,p.ns++[n]⟩:=by
 have hn:n ∉ p.ns:=fun hm=>Qjd (h n hm) rfl;have e:QI p.ns n=p.ns:=congrArg PeerS.ns (Qt7 hn);unfold Qc0;rw [e,QwM h];unfold JS;rw [List.take_length,List.drop_length]
def goS (c:ConfS) (a:List UInt8):List SetS→Option (ConfS×List UInt8)
 | []=>some (c,a)
 | s::l=>if (Qi c a s).2.2=0 then goS (Qi c a s).1 (Qi c a s).2.1 l else none
theorem Qjn:∀ {L:List SetS} {c c':ConfS} {a a':List UInt8} (i:Nat),goS c a L=some (c',a')→Yx c a i L=(c',0,0)
 | [],c,c',a,a',i,h=>by
  have:=Qy9.inj h;rw [show c=c' from congrArg Prod.fst this];rfl
 | s::L,c,c',a,a',i,h=>by
  unfold goS at h;unfold Yx;by_cases q:(Qi c a s).2.2=0
  ·rw [if_pos q] at h ⊢;exact Qjn (i+1) h
  ·rw [if_neg q] at h;cases h
theorem Xj:∀ {L M:List SetS} {c c':ConfS} {a a':List UInt8},goS c a L=some (c',a')→goS c a (L++M)=goS c' a' M
 | [],M,c,c',a,a',h=>by
  have:=Qy9.inj h;rw [show c=c' from congrArg Prod.fst this,show a=a' from congrArg Prod.snd this];rfl
 | s::L,M,c,c',a,a',h=>by
  rw [List.cons_append];show (if (Qi c a s).2.2=0 then goS (Qi c a s).1 (Qi c a s).2.1 (L++M) else none)=_;have h':(if (Qi c a s).2.2=0 then goS (Qi c a s).1 (Qi c a s).2.1 L else none)=some (c',a'):=h;by_cases q:(Qi c a s).2.2=0
  ·rw [if_pos q] at h' ⊢;exact Xj h'
  ·rw [if_neg q] at h';cases h'
theorem Qb2 {s:SetS} {c c':ConfS} {a a':List UInt8} (h:Qi c a s=(c',a',0)):goS c a [s]=some (c',a'):=by
 unfold goS;rw [h];rfl
structure Sem (c:ConfS) (k:List UInt8) (port:Int) (G:List UInt8→Option PeerS):Prop where
 ok:ConfOk c
 k:c.k=k
 port:c.port=port
 at_:∀ x,QM c.ps x=G x
theorem Sem.eq {c d:ConfS} {k:List UInt8} {port:Int} {G:List UInt8→Option PeerS} (h1:Sem c k port G) (h2:Sem d k port G):c=d:=by
 have e:c.ps=d.ps:=QyG (WZ.1 h1.ok.inc) (WZ.1 h2.ok.inc) fun x=>(h1.at_ x).trans (h2.at_ x).symm;obtain ⟨ck,cp,cs⟩:=c;obtain ⟨dk,dp,ds⟩:=d;have a:=h1.k;have b:=h2.k;have a2:=h1.port;have b2:=h2.port;simp only at a b a2 b2 e;rw [a,b,a2,b2,e]
def Vh (G:List UInt8→Option PeerS) (a:List UInt8) (p:PeerS):List UInt8→Option PeerS:=fun x=>if x=a then some p else G x
theorem QyH {c:ConfS} {k:List UInt8} {port:Int} {G:List UInt8→Option PeerS} {t a:List UInt8} (h:Sem c k port G) (hx:WA t=0) (hn:t≠k) (hp:G t=none) (hl:c.ps.length < 6) :
  ∃ d,Qi c a ⟨4,t,0,[]⟩=(d,t,0)∧Sem d k port (Vh G t ⟨t,[],[],0,[]⟩):=by
 have e:Qv c.ps t = -1:=Yn.1 (by rw [h.at_,hp]);have hk:t≠c.k:=by rw [h.k];exact hn
 refine ⟨Qer c t,?_,Qjk h.ok hx hk e (by omega),h.k,h.port,fun x=>?_⟩
 ·show (if t=c.k then noS 14 else if ¬ Qv c.ps t = -1 then (c,t,0) else if c.ps.length=6 then noS 7 else (Qer c t,t,0))=_;rw [if_neg hk,if_neg (not_not_intro e),if_neg (by omega)]
 ·show QM (VT c.ps (lbP c.ps t) ⟨t,[],[],0,[]⟩) x=_;rw [QlU _ (X1 e),h.at_];rfl
theorem VW {c:ConfS} {k:List UInt8} {port:Int} {G:List UInt8→Option PeerS} {a:List UInt8} {p:PeerS} {s:SetS} (h:Sem c k port G) (ha:a≠[]) (hp:G a=some p) (hs:5≤s.k) :
  ∃ i,i < c.ps.length∧c.ps.getD i Qa=p∧p.k=a∧Qv c.ps a=(i:Int)∧Qi c a s=Qes c a i s:=by
 have hg:QM c.ps a=some p:=(h.at_ a).trans hp;obtain ⟨i,hi,e,e2⟩:=Qpi (WZ.1 h.ok.inc) hg;refine ⟨i,hi,e2,(Zr hg).2,e,?_⟩;unfold Qi;rw [if_neg (by omega),if_neg (by omega),if_neg (by omega),if_neg (by omega),if_neg (by rw [e,not_or];exact ⟨ha,by omega⟩),e,Int.toNat_natCast]
theorem Qc1 {c:ConfS} {k:List UInt8} {port:Int} {G:List UInt8→Option PeerS} {i:Nat} {p q:PeerS} (h:Sem c k port G) (hi:i < c.ps.length) (e:c.ps.getD i Qa=p) (hq:PeerOk q) (hk:q.k=p.k) (hns:q.ns.Sublist p.ns):Sem (Qac c i q) k port (Vh G p.k q):=by
 refine ⟨QcV h.ok hi hq (by rw [e];exact hk) (by rw [e];exact hns),h.k,h.port,fun x=>?_⟩;show QM (c.ps.set i q) x=_;rw [QgA (WZ.1 h.ok.inc) hi (by rw [e];exact hk),h.at_,hk];rfl
theorem QgB {c:ConfS} {k:List UInt8} {port:Int} {G:List UInt8→Option PeerS} {a:List UInt8} {p:PeerS} (h:Sem c k port G) (hp:G a=some p):PeerOk p∧p.k≠k∧p.k=a:=by
 obtain ⟨m,e⟩:=Zr ((h.at_ a).trans hp);obtain ⟨u,v⟩:=h.ok.ps p m;exact ⟨u,by rw [← h.k];exact v,e⟩
theorem go_6 {c:ConfS} {k:List UInt8} {port:Int} {G:List UInt8→Option PeerS} {a t:List UInt8} {p:PeerS} (h:Sem c k port G) (ha:a≠[]) (hp:G a=some p) (ht:t=[]∨(t≠WT∧WA t=0)) :
  ∃ d,Qi c a ⟨6,t,0,[]⟩=(d,a,0)∧Sem d k port (Vh G a ⟨p.k,t,p.e,p.a,p.ns⟩):=by
 obtain ⟨i,hi,e,ek,_,eo⟩:=VW (s:=⟨6,t,0,[]⟩) h ha hp (by decide:(5:Int)≤6);obtain ⟨po,_,_⟩:=QgB h hp;refine ⟨_,eo,?_⟩;have:=Qc1 (q:=⟨p.k,t,p.e,p.a,p.ns⟩) h hi e ⟨po.k,ht,po.e,po.a,po.nl,po.nb,po.ns⟩ rfl (Qy7 _);rw [ek] at this;rw [e,ek];exact this
theorem go_7 {c:ConfS} {k:List UInt8} {port:Int} {G:List UInt8→Option PeerS} {a t:List UInt8} {p:PeerS} (h:Sem c k port G) (ha:a≠[]) (hp:G a=some p) (ht:t=[]∨Y3 t=0) :
  ∃ d,Qi c a ⟨7,t,0,[]⟩=(d,a,0)∧Sem d k port (Vh G a ⟨p.k,p.s,t,p.a,p.ns⟩):=by
 obtain ⟨i,hi,e,ek,_,eo⟩:=VW (s:=⟨7,t,0,[]⟩) h ha hp (by decide:(5:Int)≤7);obtain ⟨po,_,_⟩:=QgB h hp;refine ⟨_,eo,?_⟩;have:=Qc1 (q:=⟨p.k,p.s,t,p.a,p.ns⟩) h hi e ⟨po.k,po.s,ht,po.a,po.nl,po.nb,po.ns⟩ rfl (Qy7 _);rw [ek] at this;rw [e,ek];exact this
theorem go_8 {c:ConfS} {k:List UInt8} {port:Int} {G:List UInt8→Option PeerS} {a:List UInt8} {n:Int} {p:PeerS} (h:Sem c k port G) (ha:a≠[]) (hp:G a=some p) (hn:0≤n∧n≤65535) :
  ∃ d,Qi c a ⟨8,[],n,[]⟩=(d,a,0)∧Sem d k port (Vh G a ⟨p.k,p.s,p.e,n,p.ns⟩):=by
 obtain ⟨i,hi,e,ek,_,eo⟩:=VW (s:=⟨8,[],n,[]⟩) h ha hp (by decide:(5:Int)≤8);obtain ⟨po,_,_⟩:=QgB h hp;refine ⟨_,eo,?_⟩;have:=Qc1 (q:=⟨p.k,p.s,p.e,n,p.ns⟩) h hi e ⟨po.k,po.s,po.e,hn,po.nl,po.nb,po.ns⟩ rfl (Qy7 _);rw [ek] at this;rw [e,ek];exact this
theorem Qxx {c:ConfS} {k:List UInt8} {port:Int} {G:List UInt8→Option PeerS} {a:List UInt8} {n:List Bool} {p:PeerS} (h:Sem c k port G) (ha:a≠[]) (hp:G a=some p) (hn:n.length≤32) (hf:¬ (QI p.ns n).length=8) :
  ∃ d,Qi c a ⟨10,[],0,n⟩=(d,a,0)∧Sem d k port (fun x=>if x=a then some (Qc0 n p) else (G x).map (ZJ n)):=by
 obtain ⟨i,hi,e,ek,_,eo⟩:=VW (s:=⟨10,[],0,n⟩) h ha hp (by decide:(5:Int)≤10)
 have hnf:¬ Wn c i n:=by
  unfold Wn;rw [JT,Jt _ hi,e];exact hf
 have eo2:Qes c a i ⟨10,[],0,n⟩=(⟨c.k,c.port,Qq c.ps i n⟩,a,0):=by
  show (if Wn c i n then noS 7 else (⟨c.k,c.port,Qq c.ps i n⟩,a,0))=_;rw [if_neg hnf]
 refine ⟨_,eo.trans eo2,Qgp h.ok hi hn hnf,h.k,h.port,fun x=>?_⟩;show QM (Qq c.ps i n) x=_;rw [QhT n (WZ.1 h.ok.inc) hi,e,ek,h.at_]
theorem go_1 {c:ConfS} {k:List UInt8} {port:Int} {G:List UInt8→Option PeerS} {t a:List UInt8} (h:Sem c k port G) (ht:WA t=0) (hn:G t=none):∃ d,Qi c a ⟨1,t,0,[]⟩=(d,[],0)∧Sem d t port G:=by
 have e:Qv c.ps t = -1:=Yn.1 ((h.at_ t).trans hn);refine ⟨⟨t,c.port,c.ps⟩,?_,⟨.inr ht,h.ok.port,h.ok.pl,fun p hp=>⟨(h.ok.ps p hp).1,X1 e p hp⟩,h.ok.inc,h.ok.nd⟩,rfl,h.port,h.at_⟩;show (if Qv c.ps t = -1 then (⟨t,c.port,c.ps⟩,[],0) else noS 14)=_;rw [if_pos e]
theorem go_2 {c:ConfS} {k:List UInt8} {port:Int} {G:List UInt8→Option PeerS} {n:Int} {a:List UInt8} (h:Sem c k port G) (hn:0≤n∧n≤65535):∃ d,Qi c a ⟨2,[],n,[]⟩=(d,[],0)∧Sem d k n G :=
 ⟨⟨c.k,n,c.ps⟩,rfl,⟨h.ok.k,hn,h.ok.pl,h.ok.ps,h.ok.inc,h.ok.nd⟩,h.k,rfl,h.at_⟩
end
end Go.Proofs.YtcebndkiagbddaaGreatDoor
