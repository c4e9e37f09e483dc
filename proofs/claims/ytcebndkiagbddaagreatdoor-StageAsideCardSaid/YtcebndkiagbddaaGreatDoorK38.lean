/- A part of the proof: contracts of functions and what they stand on. Written shorter and merged by a program (pack.py). -/
import Derived.Test.YtcebndkiagbddaaGreatDoorK36
set_option linter.unusedVariables false
set_option linter.unusedSimpArgs false
set_option maxRecDepth 100000
set_option maxHeartbeats 4000000
open List renaming flatMap_cons → Qy3, getD_eq_getElem?_getD → Qy4, pairwise_cons → Qy5, getElem?_eq_getElem → Qy7, mem_cons → Qy9, take_append_drop → Qza, perm_middle → Qzb, mem_or_eq_of_mem_set → Qzd, countP_cons_of_pos → Qze, pairwise_singleton → Qzf, mem_cons_of_mem → Qzi, countP_eq_zero → Qzj, mem_cons_self → Qzk
open List.Sublist renaming refl → Qy6, append → Qzc
open List.Pairwise renaming nil → Qy8
open UInt8 renaming lt_iff_toNat_lt → Qzg
open Bool renaming or_eq_false_iff → Qzh
namespace Go.Proofs.YtcebndkiagbddaaGreatDoor
section
open Go.Lib
theorem Qgo:∀ a b:List UInt8,(Op.bytesLess b a=false∧b≠a)↔cbK a b < 0
 | [],[]=>⟨fun h=>absurd rfl h.2,fun h=>absurd (show (0:Int) < 0 from h) (by decide)⟩
 | [],_::_=>⟨fun _=>(by decide:(-1:Int) < 0),fun _=>⟨by simp [Op.bytesLess],by simp⟩⟩
 | _::_,[]=>⟨fun h=>absurd h.1 (by simp [Op.bytesLess]),fun h=>absurd (show (1:Int) < 0 from h) (by decide)⟩
 | a::x,b::y=>by
  have ih:=Qgo x y;have e:cbK (a::x) (b::y)=(if a < b then (-1:Int) else if b < a then 1 else cbK x y):=rfl;have lt:∀ x y:UInt8,x < y↔x.toNat < y.toNat:=fun x y=>Qzg;rw [e];unfold Op.bytesLess;rw [Qzh];by_cases h1:a < b
  ·rw [if_pos h1];have hn:¬ b < a:=fun h=>by rw [lt] at h h1;omega
   have hne:b≠a:=fun h=>by subst h;rw [lt] at h1;omega
   have hb:(b == a)=false:=by simp [hne]
   refine ⟨fun _=>by decide,fun _=>⟨⟨decide_eq_false hn,by rw [hb];rfl⟩,fun h=>hne (List.cons.inj h).1⟩⟩
  ·rw [if_neg h1];by_cases h2:b < a
   ·rw [if_pos h2];exact ⟨fun h=>absurd (of_decide_eq_false h.1.1) (fun k=>k h2),fun h=>absurd h (by decide)⟩
   ·rw [if_neg h2,← ih]
    have e:a=b:=by
     apply UInt8.toNat_inj.1;rw [lt] at h1 h2;omega
    subst e;simp
theorem QyA {a b:List UInt8} (h:¬ cbK a b < 0) (hn:a≠b):cbK b a < 0:=by
 rw [← Qgo] at h ⊢;refine ⟨?_,hn⟩
 cases q:Op.bytesLess a b with
 | false=>rfl
 | true =>
  exfalso;refine h ⟨?_,hn.symm⟩
  have:∀ x y:List UInt8,Op.bytesLess x y=true→Op.bytesLess y x=false:=by
   intro x
   induction x with
   | nil=>intro y _;cases y <;> simp [Op.bytesLess]
   | cons a x ih =>
    intro y
    cases y with
    | nil=>intro h;simp [Op.bytesLess] at h
    | cons b y =>
     intro h;have lt:∀ x y:UInt8,x < y↔x.toNat < y.toNat:=fun x y=>Qzg;unfold Op.bytesLess at h ⊢;rw [Bool.or_eq_true,decide_eq_true_iff,Bool.and_eq_true] at h;rw [Qzh];rcases h with h | ⟨h,k⟩
     ·have hn:¬ b < a:=fun q=>by rw [lt] at h q;omega
      have hne:(b == a)=false:=by
       have:b≠a:=fun q=>by subst q;rw [lt] at h;omega
       simp [this]
      exact ⟨decide_eq_false hn,by rw [hne];rfl⟩
     ·have e:a=b:=by simpa using h
      subst e;have hn:¬ a < a:=fun q=>by rw [lt] at q;omega
      exact ⟨decide_eq_false hn,by rw [ih y k];simp⟩
  exact this a b q
theorem QlA {p q:PeerS}:Qgh p q↔cbK p.k q.k < 0:=Qgo p.k q.k
theorem WZ {ps:List PeerS}:ps.Pairwise Qgh↔Yl ps:=by
 unfold Yl;constructor
 ·exact fun h=>h.imp fun k=>QlA.1 k
 ·exact fun h=>h.imp fun k=>QlA.2 k
theorem QcT {ps qs:List PeerS} (h:qs.map (·.k)=ps.map (·.k)) (hp:ps.Pairwise Qgh):qs.Pairwise Qgh:=by
 rw [WZ] at hp ⊢;have e:∀ l:List PeerS,Yl l↔(l.map (·.k)).Pairwise fun a b=>cbK a b < 0:=fun l=>by unfold Yl;rw [List.pairwise_map]
 rw [e] at hp ⊢;rw [h];exact hp
theorem Vf (ps:List PeerS) (k:List UInt8):(Qv ps k = -1 ∧ ∀ p∈ps,p.k≠k)∨∃ i,i < ps.length∧Qv ps k=(i:Int)∧(ps.getD i Qa).k=k:=by
 by_cases h:k∈ps.map (·.k)
 ·right;have h1:=List.idxOf_lt_length_of_mem h;have h2:(ps.map (·.k)).idxOf k < ps.length:=by simpa using h1
  refine ⟨(ps.map (·.k)).idxOf k,h2,by unfold Qv;rw [if_pos h],?_⟩;have g:=List.getElem_idxOf h1;rw [List.getElem_map] at g;rw [Qy4,Qy7 h2];exact g
 ·left;exact ⟨by unfold Qv;rw [if_neg h],fun p hp e=>h (e ▸ List.mem_map_of_mem hp)⟩
theorem X1 {ps:List PeerS} {k:List UInt8} (h:Qv ps k = -1):∀ p∈ps,p.k≠k:=by
 rcases Vf ps k with q | ⟨i,_,e,_⟩
 ·exact q.2
 ·omega
theorem QqP {ps:List PeerS} {k:List UInt8} (h:¬ Qv ps k = -1):∃ i,i < ps.length∧Qv ps k=(i:Int)∧(ps.getD i Qa).k=k:=by
 rcases Vf ps k with q | q
 ·exact absurd q.1 h
 ·exact q
theorem Wy {ps:List PeerS} {i:Nat} (hi:i < ps.length):ps.getD i Qa∈ps:=by
 rw [Qy4,Qy7 hi];exact List.getElem_mem hi
theorem Yt {c:ConfS} (h:ConfOk c):PsOk c.ps:=by
 have g:∀ a,(c.ps.getD a Qa∈c.ps)∨c.ps.getD a Qa=Qa:=fun a=>by
  by_cases q:a < c.ps.length
  ·exact .inl (Wy q)
  ·right;rw [Qy4,List.getElem?_eq_none (by omega)];rfl
 refine ⟨h.pl,fun a=>?_,fun a x hx=>?_,fun a=>?_⟩
 ·rcases g a with q | q
  ·exact (h.ps _ q).1.nl
  ·rw [q];decide
 ·rcases g a with q | q
  ·exact (h.ps _ q).1.nb x hx
  ·rw [q] at hx;cases hx
 ·rcases g a with q | q
  ·exact (h.ps _ q).1.ns
  ·rw [q];exact Qy8
abbrev QlB:=ConfS×List UInt8×Int
def Q4:ConfS:=⟨[],0,[]⟩
def noS (e:Int):QlB:=(Q4,[],e)
def Qac (c:ConfS) (i:Nat) (p:PeerS):ConfS:=⟨c.k,c.port,c.ps.set i p⟩
def Q8 (k:List UInt8) (ps:List PeerS):List PeerS:=ps.filter fun p=>!decide (p.k=k)
def Qer (c:ConfS) (k:List UInt8):ConfS:=⟨c.k,c.port,VT c.ps (lbP c.ps k) ⟨k,[],[],0,[]⟩⟩
def Wn (c:ConfS) (i:Nat) (n:List Bool):Prop:=((psD c.ps n c.ps.length).getD i Qa).ns.length=8
instance (c:ConfS) (i:Nat) (n:List Bool):Decidable (Wn c i n):=by unfold Wn;exact inferInstance
def Qes (c:ConfS) (at_:List UInt8) (i:Nat) (s:SetS):QlB :=
 if s.k=5 then (⟨c.k,c.port,Q8 at_ c.ps⟩,[],0)
 else if s.k=6 then (Qac c i ⟨(c.ps.getD i Qa).k,s.t,(c.ps.getD i Qa).e,(c.ps.getD i Qa).a,(c.ps.getD i Qa).ns⟩,at_,0)
 else if s.k=7 then (Qac c i ⟨(c.ps.getD i Qa).k,(c.ps.getD i Qa).s,s.t,(c.ps.getD i Qa).a,(c.ps.getD i Qa).ns⟩,at_,0)
 else if s.k=8 then (Qac c i ⟨(c.ps.getD i Qa).k,(c.ps.getD i Qa).s,(c.ps.getD i Qa).e,s.n,(c.ps.getD i Qa).ns⟩,at_,0)
 else if s.k=9 then (Qac c i ⟨(c.ps.getD i Qa).k,(c.ps.getD i Qa).s,(c.ps.getD i Qa).e,(c.ps.getD i Qa).a,[]⟩,at_,0)
 else if Wn c i s.p then noS 7 else (⟨c.k,c.port,Qq c.ps i s.p⟩,at_,0)
def Qi (c:ConfS) (at_:List UInt8) (s:SetS):QlB :=
 if s.k=1 then (if Qv c.ps s.t = -1 then (⟨s.t,c.port,c.ps⟩,[],0) else noS 14)
 else if s.k=2 then (⟨c.k,s.n,c.ps⟩,[],0)
 else if s.k=3 then (⟨c.k,c.port,[]⟩,[],0)
 else if s.k=4 then (if s.t=c.k then noS 14 else if ¬ Qv c.ps s.t = -1 then (c,s.t,0) else if c.ps.length=6 then noS 7 else (Qer c s.t,s.t,0))
 else if at_=[]∨Qv c.ps at_ = -1 then noS 13
 else Qes c at_ (Qv c.ps at_).toNat s
theorem QcU:∀ (ps:List PeerS) (i:Nat) (p:PeerS),p.ns.Sublist (ps.getD i Qa).ns→((ps.set i p).flatMap (·.ns)).Sublist (ps.flatMap (·.ns))
 | [],_,_,_=>Qy6 _
 | q::ps,0,p,h=>by
  show ((p::ps).flatMap (·.ns)).Sublist _;rw [Qy3,Qy3];exact Qzc h (Qy6 _)
 | q::ps,i+1,p,h=>by
  show ((q::ps.set i p).flatMap (·.ns)).Sublist _;rw [Qy3,Qy3];exact Qzc (Qy6 _) (QcU ps i p h)
theorem Qpc {ps:List PeerS} {i:Nat} {p:PeerS} (h:p.k=(ps.getD i Qa).k):(ps.set i p).map (·.k)=ps.map (·.k):=by
 rw [List.map_set];by_cases q:i < ps.length
 ·rw [h,Qy4,Qy7 q];have hq:i < (ps.map (·.k)).length:=by simpa using q
  have h0:(ps.map (·.k)).set i (ps.map (·.k))[i]=ps.map (·.k):=List.set_getElem_self hq;rw [List.getElem_map] at h0;exact h0
 ·rw [List.set_eq_of_length_le (by simpa using q)]
theorem QcV {c:ConfS} (h:ConfOk c) {i:Nat} (hi:i < c.ps.length) {p:PeerS} (hp:PeerOk p) (hk:p.k=(c.ps.getD i Qa).k) (hns:p.ns.Sublist (c.ps.getD i Qa).ns):ConfOk (Qac c i p):=by
 refine ⟨h.k,h.port,?_,fun q hq=>?_,QcT (Qpc hk) h.inc,h.nd.sublist (QcU _ _ _ hns)⟩
 ·show (c.ps.set i p).length≤6;rw [List.length_set];exact h.pl
 ·rcases Qzd hq with k | k
  ·exact h.ps q k
  ·subst k;refine ⟨hp,?_⟩;show q.k≠c.k;rw [hk];exact (h.ps _ (Wy hi)).2
theorem QhO (ps:List PeerS) (k:Nat) (p:PeerS):(VT ps k p).Perm (p::ps):=by
 have:=(Qzb (a:=p) (l₁:=ps.take k) (l₂:=ps.drop k));rw [Qza] at this;exact this
theorem Qnn {q:PeerS} {ps:List PeerS} {k:List UInt8} (h:cbK q.k k < 0):lbP (q::ps) k=lbP ps k+1:=by
 unfold lbP;rw [Qze (by simpa using h)]
theorem Qno {q:PeerS} {ps:List PeerS} {k:List UInt8} (hi:Yl (q::ps)) (h:¬ cbK q.k k < 0):lbP (q::ps) k=0:=by
 unfold lbP;rw [Qzj];intro x hx;rcases Qy9.1 hx with rfl | hx
 ·simpa using h
 ·intro k2;exact h (Jr ((Qy5.1 hi).1 x hx) (by simpa using k2))
theorem QlC:∀ {ps:List PeerS} {p:PeerS},Yl ps→(∀ q∈ps,q.k≠p.k)→Yl (VT ps (lbP ps p.k) p)
 | [],p,_,_=>Qzf _ _
 | q::ps,p,h,hn=>by
  obtain ⟨h1,h2⟩:=Qy5.1 h;by_cases k:cbK q.k p.k < 0
  ·rw [Qnn k];show Yl (q::VT ps (lbP ps p.k) p);refine Qy5.2 ⟨fun x hx=>?_,QlC h2 fun x hx=>hn x (Qzi _ hx)⟩;rcases Qy9.1 ((QhO ps _ p).mem_iff.1 hx) with e | e
   ·rw [e];exact k
   ·exact h1 x e
  ·rw [Qno h k];show Yl (p::q::ps);have pq:cbK p.k q.k < 0:=QyA k (hn q (Qzk ..));refine Qy5.2 ⟨fun x hx=>?_,h⟩;rcases Qy9.1 hx with e | e
   ·rw [e];exact pq
   ·exact Jr pq (h1 x e)
theorem QqQ {ps qs:List PeerS} (h:ps.Perm qs):(ps.flatMap (·.ns)).Perm (qs.flatMap (·.ns)):=h.flatMap_right _
theorem Qjk {c:ConfS} (h:ConfOk c) {k:List UInt8} (hk:WA k=0) (hn:k≠c.k) (hi:Qv c.ps k = -1) (hl:¬ c.ps.length=6):ConfOk (Qer c k):=by
 have hpl:=h.pl;have pm:=QhO c.ps (lbP c.ps k) ⟨k,[],[],0,[]⟩;refine ⟨h.k,h.port,?_,fun q hq=>?_,?_,?_⟩
 ·show (VT c.ps (lbP c.ps k) ⟨k,[],[],0,[]⟩).length≤6;rw [pm.length_eq];show c.ps.length+1≤6;omega
 ·rcases Qy9.1 (pm.mem_iff.1 hq) with e | e
  ·subst e;exact ⟨⟨hk,.inl rfl,.inl rfl,⟨Int.le_refl _,(by decide:(0:Int)≤65535)⟩,(by decide:0≤8),fun n hn=>(by cases hn),Qy8⟩,hn⟩
  ·exact h.ps q e
 ·exact WZ.2 (QlC (p:=⟨k,[],[],0,[]⟩) (WZ.1 h.inc) (X1 hi))
 ·exact ((QqQ pm).nodup_iff).2 h.nd
theorem JT (ps:List PeerS) (n:List Bool):psD ps n ps.length=ps.map (ZJ n):=by
 unfold psD;rw [List.take_length,List.drop_length,List.append_nil]
theorem QcW (n:List Bool):∀ ps:List PeerS,(ps.map (ZJ n)).flatMap (·.ns)=QI (ps.flatMap (·.ns)) n
 | []=>rfl
 | p::ps=>by
  rw [List.map_cons,Qy3,Qy3,QcW n ps];unfold QI;rw [List.filter_append];rfl
theorem QyB {c:ConfS} (h:ConfOk c) (n:List Bool):ConfOk ⟨c.k,c.port,c.ps.map (ZJ n)⟩:=by
 refine ⟨h.k,h.port,?_,fun q hq=>?_,?_,?_⟩
 ·show (c.ps.map (ZJ n)).length≤6;rw [List.length_map];exact h.pl
 ·obtain ⟨p,hp,rfl⟩:=List.mem_map.1 hq;obtain ⟨k,kn⟩:=h.ps p hp;exact ⟨⟨k.k,k.s,k.e,k.a,Nat.le_trans (QeO _ _) k.nl,fun x hx=>k.nb x (Qlz hx),k.ns.filter _⟩,kn⟩
 ·exact QcT (by rw [List.map_map];rfl) h.inc
 ·show ((c.ps.map (ZJ n)).flatMap (·.ns)).Nodup;rw [QcW];exact h.nd.filter _
theorem QcX (n:List Bool) (k:Nat):∀ (ps:List PeerS) (i:Nat) (p:PeerS),i < ps.length→p.ns=JS (ps.getD i Qa).ns k n→((ps.set i p).flatMap (·.ns)).Perm (n::ps.flatMap (·.ns))
 | [],_,_,h,_=>absurd h (Nat.not_lt_zero _)
 | q::ps,0,p,_,h=>by
  show ((p::ps).flatMap (·.ns)).Perm _;rw [Qy3,Qy3,h,← List.cons_append];refine List.Perm.append_right _ ?_;have:=(Qzb (a:=n) (l₁:=q.ns.take k) (l₂:=q.ns.drop k));rw [Qza] at this;exact this
 | q::ps,i+1,p,hi,h=>by
  show ((q::ps.set i p).flatMap (·.ns)).Perm _;rw [Qy3,Qy3];exact ((QcX n k ps i p (Nat.lt_of_succ_lt_succ hi) h).append_left q.ns).trans Qzb
theorem Qnp {q:List Bool} {ns:List (List Bool)} {n:List Bool} (h:ltB q n=true):lbN (q::ns) n=lbN ns n+1:=by
 unfold lbN;rw [Qze (by simpa using h)]
theorem Qnq {q:List Bool} {ns:List (List Bool)} {n:List Bool} (hi:Yi (q::ns)) (h:ltB q n=false):lbN (q::ns) n=0:=by
 unfold lbN;rw [Qzj];intro x hx;rcases Qy9.1 hx with rfl | hx
 ·rw [h];decide
 ·intro k2;rw [Xd ((Qy5.1 hi).1 x hx) k2] at h;cases h
theorem QhP:∀ {ns:List (List Bool)} {n:List Bool},Yi ns→n ∉ ns→(∀ x∈ns,x.length≤32)→n.length≤32→Yi (JS ns (lbN ns n) n)
 | [],n,_,_,_,_=>Qzf _ _
 | q::ns,n,h,hn,hb,h32=>by
  obtain ⟨h1,h2⟩:=Qy5.1 h;rw [Qy9,not_or] at hn
  cases k:ltB q n with
  | true =>
   rw [Qnp k];show Yi (q::JS ns (lbN ns n) n);refine Qy5.2 ⟨fun x hx=>?_,QhP h2 hn.2 (fun x hx=>hb x (Qzi _ hx)) h32⟩;have pm:=(Qzb (a:=n) (l₁:=ns.take (lbN ns n)) (l₂:=ns.drop (lbN ns n)));rw [Qza] at pm;rcases Qy9.1 (pm.mem_iff.1 hx) with e | e
   ·rw [e];exact k
   ·exact h1 x e
  | false =>
   rw [Qnq h k];show Yi (n::q::ns);have pq:ltB n q=true:=QoV (hb q (Qzk ..)) (fun e=>hn.1 e.symm) k;refine Qy5.2 ⟨fun x hx=>?_,h⟩;rcases Qy9.1 hx with e | e
   ·rw [e];exact pq
   ·exact Xd pq (h1 x e)
theorem Qgp {c:ConfS} (h:ConfOk c) {i:Nat} (hi:i < c.ps.length) {n:List Bool} (hn:n.length≤32) (hf:¬ Wn c i n):ConfOk ⟨c.k,c.port,Qq c.ps i n⟩:=by
 have d:=QyB h n;unfold Wn at hf;rw [JT] at hf;have hi2:i < (c.ps.map (ZJ n)).length:=by rw [List.length_map];exact hi
 obtain ⟨po,pk⟩:=d.ps _ (Wy hi2);have h8:=po.nl
 have hnn:n ∉ ((c.ps.map (ZJ n)).getD i Qa).ns:=fun hm=>by
  have:n∈(c.ps.map (ZJ n)).flatMap (·.ns):=List.mem_flatMap.2 ⟨_,Wy hi2,hm⟩;rw [QcW] at this;simpa using (List.mem_filter.1 this).2
 have hlb:=QbZ ((c.ps.map (ZJ n)).getD i Qa).ns n;unfold Qq;rw [JT];refine ⟨h.k,h.port,?_,fun q hq=>?_,?_,?_⟩
 ·show ((c.ps.map (ZJ n)).set i _).length≤6;rw [List.length_set];exact d.pl
 ·rcases Qzd hq with k | k
  ·exact d.ps q k
  ·subst k;refine ⟨⟨po.k,po.s,po.e,po.a,?_,fun x hx=>?_,QhP po.ns hnn po.nb hn⟩,pk⟩
   ·show (JS ((c.ps.map (ZJ n)).getD i Qa).ns (lbN ((c.ps.map (ZJ n)).getD i Qa).ns n) n).length≤8;rw [Qlv hlb];show ((c.ps.map (ZJ n)).getD i Qa).ns.length+1≤8;have h8':((c.ps.map (ZJ n)).getD i Qa).ns.length≤8:=h8;omega
   ·have pm:=(Qzb (a:=n) (l₁:=((c.ps.map (ZJ n)).getD i Qa).ns.take (lbN ((c.ps.map (ZJ n)).getD i Qa).ns n)) (l₂:=((c.ps.map (ZJ n)).getD i Qa).ns.drop (lbN ((c.ps.map (ZJ n)).getD i Qa).ns n)));rw [Qza] at pm;rcases Qy9.1 (pm.mem_iff.1 hx) with e | e
    ·rw [e];exact hn
    ·exact po.nb x e
 ·exact QcT (Qpc rfl) d.inc
 ·refine ((QcX n (lbN ((c.ps.map (ZJ n)).getD i Qa).ns n) _ i _ hi2 rfl).nodup_iff).2 ?_;refine List.nodup_cons.2 ⟨fun hm=>?_,d.nd⟩;rw [QcW] at hm;simpa using (List.mem_filter.1 hm).2
theorem Qpd {c:ConfS} (h:ConfOk c) (k:List UInt8):ConfOk ⟨c.k,c.port,Q8 k c.ps⟩:=by
 have sl:(Q8 k c.ps).Sublist c.ps:=List.filter_sublist;refine ⟨h.k,h.port,Nat.le_trans sl.length_le h.pl,fun q hq=>h.ps q (sl.subset hq),h.inc.sublist sl,h.nd.sublist ?_⟩
 have:∀ {a b:List PeerS},a.Sublist b→(a.flatMap (·.ns)).Sublist (b.flatMap (·.ns)):=by
  intro a b h
  induction h with
  | slnil=>exact Qy6 _
  | cons x _ ih=>rw [Qy3];exact ih.trans (List.sublist_append_right _ _)
  | cons_cons x _ ih=>rw [Qy3,Qy3];exact Qzc (Qy6 _) ih
 exact this sl
def Qb0 (k:List UInt8):Prop:=k=[]∨WA k=0
def Qx (s:SetS):Prop:=QP s=0∧s.p.length≤32
theorem ZG:ConfOk Q4:=⟨.inl rfl,⟨by decide,by decide⟩,by decide,fun p h=>(by cases h),Qy8,Qy8⟩
theorem Xs {c:ConfS} {a:List UInt8} {s:SetS} (h:ConfOk c) (ha:Qb0 a) (hs:Qx s):ConfOk (Qi c a s).1∧Qb0 (Qi c a s).2.1:=by
 obtain ⟨k1,k2,k3,k4,k5,k6,k7,k8,k9⟩:=YI hs.1;have n0:∀ e,ConfOk (noS e).1∧Qb0 (noS e).2.1:=fun e=>⟨ZG,.inl rfl⟩;unfold Qi;by_cases e1:s.k=1
 ·rw [if_pos e1];by_cases q:Qv c.ps s.t = -1
  ·rw [if_pos q];exact ⟨⟨.inr (k6 (.inl e1)),h.port,h.pl,fun p hp=>⟨(h.ps p hp).1,X1 q p hp⟩,h.inc,h.nd⟩,.inl rfl⟩
  ·rw [if_neg q];exact n0 _
 rw [if_neg e1];by_cases e2:s.k=2
 ·rw [if_pos e2];exact ⟨⟨h.k,k9 (YJ.2 (.inl e2)),h.pl,h.ps,h.inc,h.nd⟩,.inl rfl⟩
 rw [if_neg e2];by_cases e3:s.k=3
 ·rw [if_pos e3];exact ⟨⟨h.k,h.port,Nat.zero_le _,fun p hp=>(by cases hp),Qy8,Qy8⟩,.inl rfl⟩
 rw [if_neg e3];by_cases e4:s.k=4
 ·rw [if_pos e4];have hx:=k6 (.inr e4);by_cases q:s.t=c.k
  ·rw [if_pos q];exact n0 _
  rw [if_neg q];by_cases q2:Qv c.ps s.t = -1
  ·rw [if_neg (not_not_intro q2)];by_cases q3:c.ps.length=6
   ·rw [if_pos q3];exact n0 _
   ·rw [if_neg q3];exact ⟨Qjk h hx q q2 q3,.inr hx⟩
  ·rw [if_pos q2];exact ⟨h,.inr hx⟩
 rw [if_neg e4];by_cases q:a=[]∨Qv c.ps a = -1
 ·rw [if_pos q];exact n0 _
 rw [if_neg q];rw [not_or] at q;obtain ⟨i,hi,ei,ek⟩:=QqP q.2;rw [ei,Int.toNat_natCast];obtain ⟨po,pk⟩:=h.ps _ (Wy hi);unfold Qes;by_cases e5:s.k=5
 ·rw [if_pos e5];exact ⟨Qpd h a,.inl rfl⟩
 rw [if_neg e5];by_cases e6:s.k=6
 ·rw [if_pos e6];exact ⟨QcV h hi ⟨po.k,k7 e6,po.e,po.a,po.nl,po.nb,po.ns⟩ rfl (Qy6 _),ha⟩
 rw [if_neg e6];by_cases e7:s.k=7
 ·rw [if_pos e7];exact ⟨QcV h hi ⟨po.k,po.s,.inr (k8 e7),po.a,po.nl,po.nb,po.ns⟩ rfl (Qy6 _),ha⟩
 rw [if_neg e7];by_cases e8:s.k=8
 ·rw [if_pos e8];exact ⟨QcV h hi ⟨po.k,po.s,po.e,k9 (YJ.2 (.inr e8)),po.nl,po.nb,po.ns⟩ rfl (Qy6 _),ha⟩
 rw [if_neg e8];by_cases e9:s.k=9
 ·rw [if_pos e9];exact ⟨QcV h hi ⟨po.k,po.s,po.e,po.a,Nat.zero_le _,fun n hn=>(by cases hn),Qy8⟩ rfl (List.nil_sublist _),ha⟩
 rw [if_neg e9];by_cases q4:Wn c i s.p
 ·rw [if_pos q4];exact n0 _
 ·rw [if_neg q4];exact ⟨Qgp h hi hs.2 q4,ha⟩
def Yx (c:ConfS) (a:List UInt8) (i:Nat):List SetS→ConfS×Int×Int
 | []=>(c,0,0)
 | s::l=>if (Qi c a s).2.2=0 then Yx (Qi c a s).1 (Qi c a s).2.1 (i+1) l else (Q4,(i:Int)+1,(Qi c a s).2.2)
def ZX (c:ConfS) (L:List SetS):ConfS×Int×Int:=Yx c [] 0 L
def ZK (c:ConfS) (L:List SetS):Nat→QlB
 | 0=>(c,[],0)
 | i+1=>Qi (ZK c L i).1 (ZK c L i).2.1 (L.getD i Qm)
theorem QeP {c:ConfS} {L:List SetS} {i:Nat} (h:i < L.length):Yx (ZK c L i).1 (ZK c L i).2.1 i (L.drop i) =
  if (ZK c L (i+1)).2.2=0 then Yx (ZK c L (i+1)).1 (ZK c L (i+1)).2.1 (i+1) (L.drop (i+1)) else (Q4,(i:Int)+1,(ZK c L (i+1)).2.2):=by
 rw [List.drop_eq_getElem_cons h];have e:L.getD i Qm=L[i]:=by rw [Qy4,Qy7 h];rfl
 show (if (Qi (ZK c L i).1 (ZK c L i).2.1 L[i]).2.2=0 then _ else _)=_;rw [← e];rfl
theorem QcY {c:ConfS} {L:List SetS} (h:ConfOk c) (hL:∀ s∈L,Qx s):∀ i,i≤L.length→ConfOk (ZK c L i).1∧Qb0 (ZK c L i).2.1
 | 0,_=>⟨h,.inl rfl⟩
 | i+1,hi=>by
  obtain ⟨a,b⟩:=QcY h hL i (by omega);refine Xs a b (hL _ ?_);rw [Qy4,Qy7 (by omega)];exact List.getElem_mem _
end
end Go.Proofs.YtcebndkiagbddaaGreatDoor
