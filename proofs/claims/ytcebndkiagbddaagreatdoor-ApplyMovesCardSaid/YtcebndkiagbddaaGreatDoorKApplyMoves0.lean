/- ApplyMoves: a network belongs to the peer to which it was assigned last, and to no other peer: the statement holds of the program, for every input. No further condition. -/
import Derived.Lib.BitFns
import Derived.Lib.ItoaNum
import Derived.Test.YtcebndkiagbddaaGreatDoorRows
import Derived.WalkKit
import Derived.ProofKit
import Derived.OpenShut
import Derived.ShutString
import Derived.ChangeOld
import Derived.Below
import Derived.Lib.SmallJoins
import Derived.Test.YtcebndkiagbddaaGreatDoorProg
import Derived.Test.YtcebndkiagbddaaGreatDoorTie
import Derived.Test.YtcebndkiagbddaaGreatDoorCards
import Derived.Lay
import Derived.SevenTiedAt
import Derived.MakeChecks
import Derived.Lib.LaidTab
import Derived.Stop.LaidErr
import Derived.Test.YtcebndkiagbddaaGreatDoorK44
set_option linter.unusedVariables false
set_option linter.unusedSimpArgs false
set_option maxRecDepth 100000
set_option maxHeartbeats 4000000
open Option renaming some → Qy3
open List renaming mem_cons → Qy4
namespace Go.Proofs.YtcebndkiagbddaaGreatDoor
section
end
section
end
section
open Go.RowKit
end
section
open Go.RowKit
end
section
open Go.RowKit
end
section
open Go.ChangeShapes Go.WideShapes Go.ChangeAt Go.RowKit
open Go.ChangeMaps (open_string shut_string)
section
variable {w:World} {Pub:Nat→Nat→Prop} {φ:Qt}
theorem Qjx (u:Value):RA w Pub φ (EV.v u).av u:=by unfold EV.av RA RP;rfl
theorem ra_s (s:ByteArray):RA w Pub φ (EV.s s.data.toList).av (.string s):=by
 obtain ⟨⟨l⟩⟩:=s;unfold EV.av RA RP;rfl
theorem QyS {l:List EV} {vs:List Value} (h:RAs w Pub φ (avL l) vs):RA w Pub φ (EV.agg l).av (.agg vs.toArray):=by
 unfold EV.av RA;exact ⟨vs,rfl,h⟩
end
abbrev rawE (k a b:Int) (s:List UInt8):EV:=.agg [.i k,.i a,.i b,.s s]
theorem Qre {H:Type} {enc:TypeId×Value→H} {W:World} {r:Reach} {b0 base:Nat} {spare:Nat→Bool} {held:Bool} {v:Value} {d:DataW H} {p:List MemPlace}
  (hv:Value.okWide Tryz.prog W r b0 44 v) (h:DataW.Trod enc Tryz.prog W base spare held 44 v d p) :
  ∃ (k a b:Int) (s:List UInt8),Qxs k a b s∧RA W (Vp W) noG (rawE k a b s).av v:=by
 obtain ⟨v0,v1,v2,v3,y0,y1,y2,y3,m,rfl,_,_,e0,e1,e2,e3⟩:=Joins.open_agg4 Tryz.underlying44 (by kernel_rfl) (by kernel_rfl) hv h;obtain ⟨n0,q0,_,w0⟩:=DataW.trod_int Tryz.underlying3 e0;obtain ⟨n1,q1,_,w1⟩:=DataW.trod_int Tryz.underlying3 e1;obtain ⟨n2,q2,_,w2⟩:=DataW.trod_int Tryz.underlying3 e2;obtain ⟨s,q3,_,w3⟩:=DataW.trod_string Tryz.underlying9 e3;simp only [List.cons.injEq,and_true] at q0 q1 q2 q3;subst q0 q1 q2 q3;refine ⟨n0,n1,n2,s.data.toList,⟨VS w0,VS w1,VS w2,?_⟩,QyS (vs:=[_,_,_,_]) (Wd (Qjx _) (Wd (Qjx _) (Wd (Qjx _) (Wd (ra_s _) VR))))⟩;rw [Array.length_toList];exact w3
end
section
open Go.RowKit
theorem QnO {n m:Int} {q:Nat} (hn:YA n) (hm:0 < m) (hq:pk n m=(q:Int)):Cf Tryz.prog 27 [] [.i n,.i m] [] (.i (q:Int)):=hq ▸ Wh hn.1 hn.2 hm
end
section
open Go.Lib
instance (c:ConfS) (i:Nat) (n:List Bool):Decidable (Wn c i n):=by unfold Wn;exact inferInstance
theorem Z0:∀ {L:List SetS} {c:ConfS} {a:List UInt8} {i:Nat},ConfOk c→Qb0 a→(∀ s∈L,Qx s)→ConfOk (Yx c a i L).1
 | [],c,a,i,h,_,_=>h
 | s::L,c,a,i,h,ha,hL=>by
  obtain ⟨k1,k2⟩:=Xs h ha (hL s (List.mem_cons_self ..));show ConfOk (if (Qi c a s).2.2=0 then Yx (Qi c a s).1 (Qi c a s).2.1 (i+1) L else (Q4,(i:Int)+1,(Qi c a s).2.2)).1;by_cases q:(Qi c a s).2.2=0
  ·rw [if_pos q];exact Z0 k1 k2 fun x hx=>hL x (List.mem_cons_of_mem _ hx)
  ·rw [if_neg q];exact ZG
theorem Xu {c:ConfS} {L:List SetS} (h:ConfOk c) (hL:∀ s∈L,Qx s):ConfOk (ZX c L).1:=Z0 h (.inl rfl) hL
end
section
open Go.RowKit Go.Lib
abbrev stQ (L:List SetS):Nat→Nat→EV:=fun i j=>stq (L.getD i Qm) j
theorem Qc7 {s:SetS} (h:s.k≠10→s.p=[]):∀ j,j < 5→(stq s j).pv=(stc s j).pv:=by
 intro j hj
 match j,hj with
 | 0,_=>rfl
 | 1,_=>rfl
 | 2,_=>rfl
 | 4,_=>rfl
 | 3,_ =>
  show (if s.k=10 then EV.u32 (adr s.p) else .v (.int .u32 0)).pv=(EV.u32 (adr s.p)).pv;by_cases k:s.k=10
  ·rw [if_pos k]
  ·rw [if_neg k,h k];rfl
theorem QaY {L:List SetS} (h:∀ s∈L,s.k≠10→s.p=[]):(EV.lz L.length 5 (stQ L)).av=(Wz L).av :=
 QbH fun i hi=>Qc7 (by
  show (L.getD i Qm).k≠10→(L.getD i Qm).p=[];rw [List.getD_eq_getElem?_getD,List.getElem?_eq_getElem hi]
  exact h _ (List.getElem_mem hi))
end
section
open Go.Lib
theorem QdT (ns:List (List Bool)) (k:Nat) (n:List Bool):(JS ns k n).Perm (n::ns):=by
 have:=(List.perm_middle (a:=n) (l₁:=ns.take k) (l₂:=ns.drop k));rw [List.take_append_drop] at this;exact this
theorem Qjy {n m:List Bool} {p:PeerS}:m∈(Qc0 n p).ns↔m=n∨m∈p.ns:=by
 show m∈JS (QI p.ns n) (lbN (QI p.ns n) n) n↔_;rw [(QdT _ _ n).mem_iff,Qy4];unfold QI;rw [List.mem_filter];by_cases h:m=n
 ·simp [h]
 ·simp [h]
theorem Sem.self {c:ConfS} (h:ConfOk c):Sem c c.k c.port (QM c.ps):=⟨h,rfl,rfl,fun _=>rfl⟩
theorem QeT {c:ConfS} {k:List UInt8} {port:Int} {G:List UInt8→Option PeerS} {t a:List UInt8} {p:PeerS} (h:Sem c k port G) (hn:t≠k) (hp:G t=some p):Qi c a ⟨4,t,0,[]⟩=(c,t,0):=by
 have e:¬ Qv c.ps t = -1:=fun e=>by rw [← Yn,h.at_,hp] at e;cases e
 show (if t=c.k then noS 14 else if ¬ Qv c.ps t = -1 then (c,t,0) else _)=_;rw [if_neg (by rw [h.k];exact hn),if_pos e]
end
section
open Go.RowKit Go.Lib
end
section
open Go.Lib
theorem QgF.self (o:Option PeerS):QgF [] o o:=by
 cases o with
 | none=>trivial
 | some p=>exact ⟨rfl,rfl,rfl,rfl,fun _ h=>h,fun _ h _=>h⟩
end
section
open Go.RowKit Go.Lib
theorem Cf.arg2 {P:Program} {f:FuncId} {hin hout:List (Nat×EB)} {r u x y:EV} (h:x.av=y.av) (k:Cf P f hin [u,x] hout r):Cf P f hin [u,y] hout r:=by
 unfold Cf Ct at k ⊢;have e:avL [u,x]=avL [u,y]:=congrArg (fun z=>[u.av,z]) h;rw [← e];exact k
end
section
open Go.RowKit Go.Lib
def mvL (C:ConfS) (j:Nat) (n:List Bool):List SetS:=[⟨4,(C.ps.getD j Qa).k,0,[]⟩,⟨10,[],0,n⟩]
theorem Quo {C:ConfS} {j:Nat} {n:List Bool} (h:ConfOk C) (hj:j < C.ps.length) (hn:n.length≤32):∀ s∈mvL C j n,Qx s:=fun s hs=>by
 unfold mvL at hs;simp only [Qy4,List.not_mem_nil,or_false] at hs;rcases hs with rfl | rfl
 ·exact sok ((Qrb _).trans (h.ps _ (Wy hj)).1.k) rfl
 ·exact ⟨Qub n,hn⟩
theorem mvL_av {C:ConfS} {j:Nat} {n:List Bool}:(EV.lz 2 5 (stQ (mvL C j n))).av=(Wz (mvL C j n)).av:=QaY (L:=mvL C j n) fun s hs hk=>by
 unfold mvL at hs;simp only [Qy4,List.not_mem_nil,or_false] at hs;rcases hs with rfl | rfl
 ·rfl
 ·exact absurd rfl hk
theorem mv_is {C:ConfS} {j:Nat} {n:List Bool} {R:ConfS×Int×Int} (h:ConfOk C) (hj:j < C.ps.length) (hn:n.length≤32) (eR:ZX C (mvL C j n)=R) :
  (¬ R.2.2=0→R.2.2=7∧(C.ps.getD j Qa).ns.length=8)∧(R.2.2=0→R.1.ps.length=C.ps.length ∧ ∀ i,i < R.1.ps.length→(n∈(R.1.ps.getD i Qa).ns↔(R.1.ps.getD i Qa).k=(C.ps.getD j Qa).k)):=by
 have hm:=Wy hj;obtain ⟨po,pk⟩:=h.ps _ hm;have hg:=Xt (WZ.1 h.inc) hm;have e1:=QeT (a:=[]) (Sem.self h) pk hg;have ha:=Qjq po;obtain ⟨i,hi,ei,ek,_,eo⟩:=VW (s:=⟨10,[],0,n⟩) (Sem.self h) ha hg (by show (5:Int)≤10;decide);have eq:Qes C (C.ps.getD j Qa).k i ⟨10,[],0,n⟩=if Wn C i n then noS 7 else (⟨C.k,C.port,Qq C.ps i n⟩,(C.ps.getD j Qa).k,0):=rfl
 rw [eq] at eo
 have er:R=if (Qi C (C.ps.getD j Qa).k ⟨10,[],0,n⟩).2.2=0 then ((Qi C (C.ps.getD j Qa).k ⟨10,[],0,n⟩).1,0,0) else (Q4,(1:Int)+1,(Qi C (C.ps.getD j Qa).k ⟨10,[],0,n⟩).2.2):=by
  rw [← eR];show (if (Qi C [] ⟨4,(C.ps.getD j Qa).k,0,[]⟩).2.2=0 then Yx (Qi C [] ⟨4,(C.ps.getD j Qa).k,0,[]⟩).1 (Qi C [] ⟨4,(C.ps.getD j Qa).k,0,[]⟩).2.1 1 [⟨10,[],0,n⟩] else _)=_;rw [e1];rfl
 by_cases hf:Wn C i n
 ·rw [eo,if_pos hf] at er;have er2:R=(Q4,(1:Int)+1,7):=er;rw [er2];refine ⟨fun _=>⟨rfl,?_⟩,fun q=>absurd q (by decide)⟩;unfold Wn at hf;rw [JT,Jt _ hi,ei] at hf;have h1:(QI (C.ps.getD j Qa).ns n).length=8:=hf;have h2:=QeO (C.ps.getD j Qa).ns n;have:=po.nl;omega
 ·rw [eo,if_neg hf] at er;have er2:R=(⟨C.k,C.port,Qq C.ps i n⟩,0,0):=er;rw [er2];refine ⟨fun q=>absurd rfl q,fun _=>⟨?_,fun k hk=>?_⟩⟩
  ·show (Qq C.ps i n).length=_;unfold Qq;rw [List.length_set];exact Ws
  ·have ok:=Qgp h hi hn hf;have hq:=Xt (WZ.1 ok.inc) (Wy (ps:=Qq C.ps i n) hk);have hq2:=hq;rw [QhT n (WZ.1 h.inc) hi,ei] at hq;show n∈((Qq C.ps i n).getD k Qa).ns↔((Qq C.ps i n).getD k Qa).k=_;generalize (Qq C.ps i n).getD k Qa=Q at hq;by_cases e:Q.k=(C.ps.getD j Qa).k
   ·rw [if_pos e] at hq;rw [← Qy3.inj hq];exact ⟨fun _=>rfl,fun _=>Qjy.2 (.inl rfl)⟩
   ·rw [if_neg e] at hq
    cases g:QM C.ps Q.k with
    | none=>rw [g] at hq;cases hq
    | some P =>
     rw [g] at hq;have:ZJ n P=Q:=Qy3.inj hq;refine ⟨fun hm=>?_,fun q=>absurd q e⟩;rw [← this] at hm;exact absurd rfl (Qjm.1 hm).2
theorem Ql5 {ns:List (List Bool)} {n:List Bool} (hl:ns.length≤1000) (hn:n.length≤32):Cf Tryz.prog 71 [] [Qg ns,XJ n] [] (.i (Jp ns n)):=by
 refine QV {} Tryz.func71 Tryz.ntmps71 ?_;refine ⟨Nat,fun k=>⟨[(0,Qg ns),(3,.own 1003 0),(7,.i (ns.length:Int)),(8,.i (k:Int))],[(1003,.box [.u32 (adr n),.i (n.length:Int)] 36)]⟩,fun k=>k≤ns.length ∧ ∀ i,i < k→ns.getD i []≠n,fun k=>ns.length - k,0,⟨Nat.zero_le _,fun i hi=>absurd hi (Nat.not_lt_zero _)⟩,?_,fun k hx1=>?_⟩
 ·skip
  repeat refine o7 ?_
  trivial
 refine ⟨fun h1=>?_,fun h1=>?_⟩
 ·skip
  have c1:=h1
  (simp only [bsX] at c1)
  have hk:k < ns.length:=by omega
  refine ⟨[0,0,0,6,14,31],by kernel_rfl,?_⟩
  repeat refine o4 ?_
  refine ⟨fun h2=>?_,fun h2=>?_⟩
  ·skip
   have c2:=h2
   (simp only [bsX] at c2)
   have hO:=Qjf hk hx1.2 (of_decide_eq_true ((YS hn).symm.trans h2)).symm
   repeat refine o42 ?_
   trivial
  ·skip
   have c2:=h2
   (simp only [bsX] at c2)
   have hO:=of_decide_eq_false ((YS hn).symm.trans h2)
   repeat refine o3 ?_
   have hnx:k+1≤ns.length ∧ ∀ i,i < k+1→ns.getD i []≠n:=⟨hk,fun i hi=>(Nat.lt_or_ge i k).elim (hx1.2 i) fun q e=>hO (by rw [← e,show i=k from by omega];rfl)⟩;refine Ql (k+1) ?_
   repeat refine o7 ?_
   trivial
 ·skip
  have c1:=h1
  (simp only [bsX] at c1)
  have hO:=Qjg (ns:=ns) (n:=n) fun i hi=>hx1.2 i (by omega)
  repeat refine o42 ?_
  trivial
theorem Ql6 {ns:List (List Bool)} {n:List Bool} (hl:ns.length≤1000) (hn:n.length≤32):Cf Tryz.prog 28 [] [Qg ns,XJ n] [] (.b (decide (n∈ns))):=by
 refine Qs {} Tryz.func28 Tryz.ntmps28 ?_;refine clX (Ql5 hl hn) ?_
 repeat (refine Ob.mk ?_ ?_;focus (first | exact Qo2 | (exact Eq.refl _) | (intro hg;((intro hq;((simp_all;done)))))))
 trivial
theorem QgL {l:List RawS} {r:RawS} {i0:Int} {C:ConfS} {n:List Bool} (hl:∀ x∈l,x.inn) (hn:(l.length:Int)≤9223372036854775807) (hr:r.inn) (hi0:YA i0) (eC:Yj l=C) (en:Vo r.k r.a r.b=n):Cf Tryz.prog 6 [] [QR l,.agg [.i r.k,.i r.a,.i r.b,.s r.s],.i i0] [] (.b true):=by
 have hC:ConfOk C:=eC ▸ Yk l;have hK:=Yo hl hn;rw [eC] at hK;have hpl:=hC.pl;have hN:=ZP (s:=r.s) hr.1 hr.2.1 hr.2.2.1;rw [en] at hN;have hn32:n.length≤32:=en ▸ Yh;refine QV {} Tryz.func6 Tryz.ntmps6 ?_;refine clX hK ?_
 repeat refine o1 ?_
 refine clX VX ?_
 repeat refine o20 ?_
 refine ⟨fun h1=>?_,fun h1=>?_⟩
 ·skip
  have c1:=h1
  (simp only [bsX] at c1)
  refine clX VX ?_
  repeat refine o0 ?_
  trivial
 ·skip
  have c1:=h1
  (simp only [bsX] at c1)
  have hpos:0 < C.ps.length:=by have:=c1;omega
  obtain ⟨j,hjq⟩:∃ j:Nat,pk i0 (C.ps.length:Int)=(j:Int):=⟨(pk i0 (C.ps.length:Int)).toNat,by have:=Q0 i0 (m:=(C.ps.length:Int)) (by omega);omega⟩;have hj:j < C.ps.length:=by have:=QW i0 (m:=(C.ps.length:Int)) (by omega);omega
  have hrun:=(XU (L:=mvL C j n) hC (Quo hC hj hn32) (by show 2≤60;decide)).arg2 mvL_av.symm;obtain ⟨R,eR⟩:∃ R,ZX C (mvL C j n)=R:=⟨_,rfl⟩;have hm:=mv_is hC hj hn32 eR;have hRok:ConfOk R.1:=eR ▸ Xu hC (Quo hC hj hn32);have hRpl:=hRok.pl;rw [eR] at hrun;refine ⟨[0,1,0,0,8,24,60,127,255,0,1023],by kernel_rfl,?_⟩;refine clX (QnO hi0 (by omega) hjq) ?_
  repeat (refine Ob.mk ?_ ?_;focus (first | (exact Eq.refl _) | assumption | omega))
  refine ⟨[0,0,2,6,0,16,48,126,255,511,1023,1023,1023,0,10239,28671,65535],by kernel_rfl,?_⟩;refine clX hN ?_
  repeat refine o0 ?_
  refine clX hrun ?_
  repeat (refine Ob.mk ?_ ?_;focus (first | (exact VU (N:=2) ⟨⟨rfl,rfl,rfl,rfl,rfl⟩,⟨rfl,rfl,rfl,rfl,rfl⟩,trivial⟩) | (exact fun _ _ _ _=>rfl) | (exact Eq.refl _)))
  refine ⟨fun h2=>?_,fun h2=>?_⟩
  ·skip
   have c2:=h2
   (simp only [bsX] at c2)
   have hm1:=hm.1 c2;have hm2:=hm1.1;have hm3:=hm1.2
   repeat (refine Ob.mk ?_ ?_;focus (first | (exact fun hg=>ZL hg) | (exact fun hg=>hg) | (simp_all;done)))
   trivial
  ·skip
   have c2:=h2
   (simp only [bsX] at c2)
   have hm1:=hm.2 c2;have hm2:=hm1.1;refine ⟨Nat,fun i=>⟨[(4,.own 1004 0),(7,.own 1007 0),(8,.own 1008 0),(9,.own 1009 0),(58,Qo R.1.ps),(59,.i (R.1.ps.length:Int)),(60,.i (i:Int))],[(1004,.box [.i r.k,.i r.a,.i r.b,.s r.s] 44),(1007,.box [.s C.k,.i C.port,Qo C.ps] 25),(1008,.box [.s (C.ps.getD j Qa).k,.s (C.ps.getD j Qa).s,.s (C.ps.getD j Qa).e,.i (C.ps.getD j Qa).a,Qg (C.ps.getD j Qa).ns] 33),(1009,.box [.s R.1.k,.i R.1.port,Qo R.1.ps] 25)]⟩,fun i=>i≤R.1.ps.length,fun i=>R.1.ps.length - i,0,Nat.zero_le _,?_,fun i hx1=>?_⟩
   ·skip
    repeat refine o1 ?_
    trivial
   refine ⟨fun h3=>?_,fun h3=>?_⟩
   ·skip
    have c3:=h3
    (simp only [bsX] at c3)
    have hi:i < R.1.ps.length:=by omega
    have hq:=(hRok.ps _ (Wy hi)).1;have hq8:=hq.nl;have hqm:=hm1.2 i hi
    repeat refine o4 ?_
    refine ⟨[0,1,0,4,15,0,32,0,128,480,1023],by kernel_rfl,?_⟩;refine clX hN ?_
    repeat refine o0 ?_
    refine clX (Ql6 (ns:=(R.1.ps.getD i Qa).ns) (n:=n) (by omega) hn32) ?_
    repeat refine o1 ?_
    refine ⟨fun h4=>?_,fun h4=>?_⟩
    ·skip
     have c4:=h4
     (simp only [bsX] at c4)
     have q4:=c4;simp at q4;exact absurd (by simpa using hqm) q4
    ·skip
     have c4:=h4
     (simp only [bsX] at c4)
     repeat refine o3 ?_
     refine Ql (i+1) ?_
     repeat refine o1 ?_
     trivial
   ·skip
    have c3:=h3
    (simp only [bsX] at c3)
    repeat (refine Ob.mk ?_ ?_;focus (simp [SrcE.len];omega))
    trivial
theorem Qg4 {l:List RawS} {r:RawS} {i0:Int} (hl:∀ x∈l,x.inn) (hn:(l.length:Int)≤9223372036854775807) (hr:r.inn) (hi0:YA i0):Cf Tryz.prog 6 [] [QR l,.agg [.i r.k,.i r.a,.i r.b,.s r.s],.i i0] [] (.b true):=QgL hl hn hr hi0 rfl rfl
end
namespace applyMoves
open Go.ChangeShapes Go.WideShapes Go.ChangeAt Go.RowKit
open Go.ChangeMaps (open_string shut_string)
def QN:List (String×DataW Unit):=[("math/bits.deBruijn32tab",Rows.laid_math_bits_deBruijn32tab),("math/bits.deBruijn64tab",Rows.laid_math_bits_deBruijn64tab),("internal/strconv.uint64pow10",Rows.laid_internal_strconv_uint64pow10),("unicode/utf8.acceptRanges",Rows.laid_unicode_utf8_acceptRanges),("unicode/utf8.first",Rows.laid_unicode_utf8_first)]
theorem Zw {W:World} (h:laidMetH Tryz.prog QN W):Amb W (Vp W):=by
 rw [MakeChecks.laidMetH_plain _ _ _ (by kernel_rfl)] at h;unfold QN at h;exact YT (laidMet.tail (laidMet.tail h))
theorem Z5 (os:Os) (started:os.Started) (H:Type) (enc:TypeId×Value→H) :
  ReturnsInHanded {} Tryz.checked os 6 .any (fun w args=>(Rows.applyMovesSpec.pre enc Tryz.prog Tryz.f6 Rows.applyMovesRow.domain false w args∧laidMetH Tryz.prog QN w)∧sizedMet enc Tryz.prog Tryz.f6 (OpenSpec.ofChange Rows.applyMovesSpec) false w args) (Rows.applyMovesSpec.post enc Tryz.prog Tryz.f6 false true false false):=by
 refine returnsInHanded_of_change_and (C:=Tryz.checked) (X:=fun w _=>laidMetH Tryz.prog QN w) (fun _ _ _ hh h=>h.of_heap hh) own started (by kernel_rfl) Tryz.func6
  (ChangeSpec.witness_shaped (enc:=enc) (C:=Tryz.checked) (os:=os) (X:=fun w _=>laidMetH Tryz.prog QN w) false (World.laidAll Tryz.prog os QN) #[.slice none 0 0,.agg #[.int .i64 0,.int .i64 0,.int .i64 0,.string ⟨#[]⟩],.int .i64 0] 8 (World.laidAll_os _ _ _)
   (World.shaped_of_ZipB (by kernel_rfl) (by kernel_rfl)) (by kernel_rfl) (by kernel_rfl) (by kernel_rfl)
   (by rw [MakeChecks.laidMetH_plain _ _ _ (by kernel_rfl)];exact laidMet_laidAll _ (by kernel_rfl) (by kernel_rfl))) ?_
 intro W base args ds gs before hval0 hW hcnd hwt hL _;have hval:∀ (j:Nat) t v,Tryz.f6.params[j]? = some t→args[j]? = some v→Value.okWide Tryz.prog W .any base t v:=hval0;have hW':=hW;obtain ⟨p,q,hA0,hV,rfl,hfz,hnd⟩:=hW;have hA:DataW.TrodAll enc Tryz.prog W 0 (fun _=>true) true Tryz.f6.params.toList args.toList ds p:=hA0;rw [Tryz.params6] at hA hval;obtain ⟨v0,vs0,d0,ds0,p0,q0,hargs,rfl,rfl,h0,r0⟩:=trodAll_cons hA;obtain ⟨v1,vs1,d1,ds1,p1,q1,rfl,rfl,rfl,h1,r1⟩:=trodAll_cons r0;obtain ⟨v2,vs2,d2,ds2,p2,q2,rfl,rfl,rfl,h2,r2⟩:=trodAll_cons r1;obtain ⟨rfl,rfl,rfl⟩:=trodAll_nil r2;obtain rfl:args = #[v0,v1,v2]:=by cases args;simp_all
 obtain ⟨rfl,rfl⟩:=trodVars_none hV;have k0:=h0;have lt0:∀ x∈p0,x.block < W.heap.size:=by obtain ⟨m,hm⟩:=k0;exact DataW.trod_lt m _ _ _ hm
 have k1:=h1;have lt1:∀ x∈p1,x.block < W.heap.size:=by obtain ⟨m,hm⟩:=k1;exact DataW.trod_lt m _ _ _ hm
 have k2:=h2;have lt2:∀ x∈p2,x.block < W.heap.size:=by obtain ⟨m,hm⟩:=k2;exact DataW.trod_lt m _ _ _ hm
 obtain ⟨l0,ok0,z0⟩:=Wb (hval 0 _ v0 rfl rfl) h0;obtain ⟨k1a,k1b,k1c,s1,ok1,z1⟩:=Qre (hval 1 _ v1 rfl rfl) h1;obtain ⟨n2,rfl,_,_,wn2⟩:=open_int Tryz.underlying3 (hval 2 _ v2 rfl rfl) h2;have ok2:=VS wn2;clear hA0 hval0;refine (Z8 (vs:=[_,_,_]) (Qg4 (r:=⟨k1a,k1b,k1c,s1⟩) ok0.2 (by have:=ok0.1;unfold maxLen at this;omega) ok1 ok2) (Zw hL) (Wd z0 (Wd z1 (Wd (Qjx _) VR)))).mono fun e W9 ⟨he,bel⟩=>?_;subst he;exact ⟨_,rfl,_,_,_,[],_,[],hW',trodAll_mk1 (shut_bool Tryz.underlying4 _),(trodAll_cons_mk (Below.trod WD (by kernel_rfl) (of_decide_eq_true (by kernel_rfl)) k0 bel lt0) (trodAll_cons_mk (Below.trod WD (by kernel_rfl) (of_decide_eq_true (by kernel_rfl)) k1 bel lt1) (trodAll_cons_mk (Below.trod WD (by kernel_rfl) (of_decide_eq_true (by kernel_rfl)) k2 bel lt2) trodAll_mk0))),rfl,bel.frame _,fun h=>by cases h⟩
theorem QaS:(Rows.applyMovesRow.inPlace == Tryz.pinned.checked.prog.inPlace 6)=true:=by kernel_rfl
theorem QaT:(Rows.applyMovesRow.unfollowed == Tryz.pinned.checked.prog.unfollowed 6)=true:=by kernel_rfl
theorem QaU:(Rows.applyMovesRow.recurses == Tryz.pinned.checked.prog.recurses 6)=true:=by kernel_rfl
theorem QaV:(Rows.applyMovesRow.named == Tryz.pinned.checked.prog.varsNamed 6)=true:=by kernel_rfl
theorem QaW:(Rows.applyMovesRow.plainKeys == Tryz.pinned.checked.prog.plainKeys)=true:=by kernel_rfl
theorem Z6:joinedFacts Tryz.pinned.checked.prog 6 Tryz.f6 Rows.applyMovesSpec Rows.applyMovesRow=true:=by
 unfold joinedFacts;exact Qc (Qc (Qc (Qc (Qc (Qc (Qc (Qc (Qc (Qc (Qc (Qc (Qc (Qc (Qc (Qc (Qc (Qc (Qc (Qc (Qc (Qc (Qc (Qc (Qc (Qc (Qc (Qc (Qc (Qc (Qc (by kernel_rfl) Qc6) Qc5) (by kernel_rfl)) (by kernel_rfl)) (by kernel_rfl)) (by kernel_rfl)) (by kernel_rfl)) (by kernel_rfl)) QaS) QaT) QaU) QaV) (by kernel_rfl)) (by kernel_rfl)) (by kernel_rfl)) (by kernel_rfl)) (by kernel_rfl)) (by kernel_rfl)) (by kernel_rfl)) (by kernel_rfl)) (by kernel_rfl)) QaW) (by kernel_rfl)) JX) JW) (YW (by kernel_rfl))) (XV (by kernel_rfl))) (by kernel_rfl)) (by kernel_rfl)) (by kernel_rfl)) (by kernel_rfl)
theorem QaX:Rows.applyMovesRow.holds Tryz.pinned (OpenSpec.ofChange Rows.applyMovesSpec) :=
 OpenClaim.holds_of_wide 6 Tryz.f6 rfl rfl rfl rfl rfl rfl rfl ⟨rfl,rfl,rfl,rfl,rfl⟩ rfl rfl rfl rfl rfl (by kernel_rfl) Tryz.func6 Z6
  (of_decide_eq_true (by kernel_rfl)) (by unfold Func.isWrapper;first | (rw [if_pos (by decide +kernel)];kernel_rfl) | (rw [if_neg (by decide +kernel)];exact ⟨rfl,rfl⟩))
  (fun os started H enc _=>Z5 os started H enc)
theorem pw1:Rows.applyMovesRow.wfByText (OpenSpec.ofChange Rows.applyMovesSpec)=true:=by kernel_rfl
theorem pw2:Tryz.pinned.checked.prog.mainIs=some ((true,"304393dc0cffdc476f139ebc5f59f91e4654f2b28d5098997c89b056d7c62b16").1,(true,"304393dc0cffdc476f139ebc5f59f91e4654f2b28d5098997c89b056d7c62b16").2.toList):=by kernel_rfl
theorem pw3:false=Tryz.pinned.checked.prog.looks []:=by kernel_rfl
theorem pw4:([22,44,3].all fun u=>!Tryz.prog.wantsStandIn u)=true:=by kernel_rfl
theorem pw5:false=Rows.applyMovesRow.goesBy Tryz.pinned.checked.prog:=by kernel_rfl
theorem pw6:Tryz.prog.funcNamed "cattlecreep/cattlecreepkeep.ApplyMoves" = some 6:=by kernel_rfl
theorem proved:Rows.ApplyMovesCardSaid :=
 Claim7.holds_tied_plain_at .later [] [.data,.data,.data,.data,.pinned] true (true,"304393dc0cffdc476f139ebc5f59f91e4654f2b28d5098997c89b056d7c62b16") false
  QaX (fun _ h=>by cases h) pw1 (fun _ h=>by cases h) applyMoves_row_tie rfl ⟨rfl,rfl⟩ pw2 rfl
  (fun f fn hf hfn=>by
   obtain rfl:f=6:=Qy3.inj (pw6.symm.trans hf) |>.symm;obtain rfl:fn=Tryz.f6:=(Qy3.inj (Tryz.func6.symm.trans hfn)).symm
   exact ⟨pw3,fun j t ht=>by
    rw [Tryz.params6] at ht;have hm:t∈[22,44,3]:=by simpa using Array.mem_of_getElem? ht
    exact (show Tryz.prog.wantsStandIn t=false by simpa using List.all_eq_true.1 pw4 t hm)⟩)
  pw5
#print axioms proved
end applyMoves
end Go.Proofs.YtcebndkiagbddaaGreatDoor
