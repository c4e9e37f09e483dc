/- A part of the proof: contracts of functions and what they stand on. Written shorter and merged by a program (pack.py). -/
import Derived.Test.YtcebndkiagbddaaGreatDoorK43
import Derived.Test.YtcebndkiagbddaaGreatDoorK42
import Derived.Test.YtcebndkiagbddaaGreatDoorK41
import Derived.Test.YtcebndkiagbddaaGreatDoorK32
import Derived.Test.YtcebndkiagbddaaGreatDoorK27
set_option linter.unusedVariables false
set_option linter.unusedSimpArgs false
set_option maxRecDepth 100000
set_option maxHeartbeats 4000000
open List renaming mem_singleton → Qy3, mem_append → Qy4, pairwise_singleton → Qy5, mem_append_left → Qy7
open Nat renaming zero_le → Qy6
namespace Go.Proofs.YtcebndkiagbddaaGreatDoor
section
open Go.Lib
def Qet (b:ConfS) (p:PeerS):Bool:=decide (fE b.ps p.k≠0∨QaO p (fP b.ps p.k)=true)
def Qad (b:ConfS) (ps:List PeerS):List (List UInt8):=(ps.filter (Qet b)).map (·.k)
def YD (a b:ConfS) (i:Nat) (x:List UInt8):Option PeerS:=if x∈Qad b (a.ps.take i) then none else QM a.ps x
structure RelP (N:List (List Bool)) (p q:PeerS):Prop where
 k:q.k=p.k
 s:q.s=p.s
 e:q.e=p.e
 a:q.a=p.a
 sub:∀ n∈q.ns,n∈p.ns
 sup:∀ n∈p.ns,n ∉ N→n∈q.ns
def QgF (N:List (List Bool)):Option PeerS→Option PeerS→Prop
 | none,none=>True
 | some p,some q=>RelP N p q
 | _,_=>False
theorem QgF.more {N M:List (List Bool)} {o o':Option PeerS} (h:QgF N o o'):QgF (N++M) o o':=by
 cases o with
 | none=>cases o' with
  | none=>trivial
  | some q=>exact h
 | some p=>cases o' with
  | none=>exact h
  | some q=>exact ⟨h.k,h.s,h.e,h.a,h.sub,fun n hn hm=>h.sup n hn fun k=>hm (Qy7 _ k)⟩
theorem QgF.del {N M:List (List Bool)} {o o':Option PeerS} (h:QgF N o o'):QgF (N++M) o (o'.map (Qb3 M)):=by
 cases o with
 | none=>cases o' with
  | none=>trivial
  | some q=>exact h
 | some p=>cases o' with
  | none=>exact h
  | some q =>
   obtain ⟨f1,f2,f3,f4⟩:=QyI M q;exact ⟨f1.trans h.k,f2.trans h.s,f3.trans h.e,f4.trans h.a,fun n hn=>h.sub n (QgD.1 hn).1,fun n hn hm=>QgD.2 ⟨h.sup n hn fun k=>hm (Qy7 _ k),fun k=>hm (List.mem_append_right _ k)⟩⟩
abbrev Qua (ps:List PeerS):List (List Bool):=ps.flatMap (·.ns)
structure DInv (a b:ConfS) (j:Nat) (d:ConfS):Prop where
 ok:ConfOk d
 k:d.k=b.k
 port:d.port=b.port
 done:∀ x∈(b.ps.take j).map (·.k),QM d.ps x=QM b.ps x
 todo:∀ x,x ∉ (b.ps.take j).map (·.k)→QgF (Qua (b.ps.take j)) (YD a b a.ps.length x) (QM d.ps x)
theorem QhX {ps:List PeerS} {j:Nat} (hj:j < ps.length):(ps.take (j+1)).map (·.k)=(ps.take j).map (·.k)++[(ps.getD j Qa).k]:=by
 rw [Xk hj,List.map_append];rfl
theorem Qra {ps:List PeerS} {j:Nat} (hj:j < ps.length):Qua (ps.take (j+1))=Qua (ps.take j)++(ps.getD j Qa).ns:=by
 unfold Qua;rw [Xk hj,List.flatMap_append];simp
theorem DInv.step {a b d e:ConfS} {j:Nat} {k:List UInt8} (hb:ConfOk b) (hj:j < b.ps.length) (h:DInv a b j d) (ok:ConfOk e) (hk:e.k=b.k) (hp:e.port=b.port)
  (hE:(∀ x,QM e.ps x=if x=(pA b j).k then some (pA b j) else (QM d.ps x).map (Qb3 (pA b j).ns))∨(∀ x,QM e.ps x=if x=(pA b j).k then some (pA b j) else QM d.ps x)):DInv a b (j+1) e:=by
 have hi:=WZ.1 hb.inc;have hm:=Wy (ps:=b.ps) (i:=j) hj;refine ⟨ok,hk,hp,fun x hx=>?_,fun x hx=>?_⟩
 ·rw [QhX hj] at hx;by_cases ex:x=(pA b j).k
  ·have g:=Xt hi hm;rcases hE with hE | hE
   ·rw [hE,if_pos ex,ex];exact g.symm
   ·rw [hE,if_pos ex,ex];exact g.symm
  ·have hx2:x∈(b.ps.take j).map (·.k):=by
    rcases Qy4.1 hx with q | q
    ·exact q
    ·exact absurd (Qy3.1 q) ex
   have hd:=h.done x hx2;rcases hE with hE | hE
   ·rw [hE,if_neg ex,hd]
    cases g:QM b.ps x with
    | none=>rfl
    | some r =>
     show some (Qb3 _ r)=some r;obtain ⟨m,mk⟩:=Zr g;rw [Qpk];intro n hn hmm;exact QgE hb.nd hm m (fun q=>ex (by rw [← mk,← q])) n hn hmm
   ·rw [hE,if_neg ex,hd]
 ·rw [QhX hj,Qy4,Qy3,not_or] at hx;have ht:=h.todo x hx.1;rw [Qra hj];rcases hE with hE | hE
  ·rw [hE,if_neg hx.2];exact ht.del
  ·rw [hE,if_neg hx.2];exact ht.more
end
section
open Go.Lib
theorem chk1 (t:List UInt8):QP ⟨1,t,0,[]⟩=WA t:=by simp [QP,isT,isN]
theorem chk2 {n:Int} (h:0≤n∧n≤65535):QP ⟨2,[],n,[]⟩=0:=by simp [QP,isT,isN];omega
theorem Qrb (t:List UInt8):QP ⟨4,t,0,[]⟩=WA t:=by simp [QP,isT,isN]
theorem chk6 {t:List UInt8} (h:t=[]∨(t≠WT∧WA t=0)):QP ⟨6,t,0,[]⟩=0:=by
 have:QP ⟨6,t,0,[]⟩=if t=[] then 0 else if t=WT then 3 else WA t:=by simp [QP,isT,isN]
 rw [this];rcases h with h | ⟨h1,h2⟩
 ·rw [if_pos h]
 ·by_cases e:t=[]
  ·rw [if_pos e]
  ·rw [if_neg e,if_neg h1];exact h2
theorem chk7 (t:List UInt8):QP ⟨7,t,0,[]⟩=Y3 t:=by simp [QP,isT,isN]
theorem chk8 {n:Int} (h:0≤n∧n≤65535):QP ⟨8,[],n,[]⟩=0:=by simp [QP,isT,isN];omega
theorem Qub (n:List Bool):QP ⟨10,[],0,n⟩=0:=by simp [QP,isT,isN]
theorem sok {s:SetS} (h:QP s=0) (hp:s.p=[]):Qx s:=⟨h,by rw [hp];exact Qy6 _⟩
theorem Ql1 {M:List (List Bool)} (h:∀ n∈M,n.length≤32):∀ s∈M.map n10,Qx s:=fun s hs=>by
 obtain ⟨n,hn,rfl⟩:=List.mem_map.1 hs;exact ⟨Qub n,h n hn⟩
theorem QhY {p:PeerS} (h:PeerOk p):∀ s∈WQ p,Qx s:=fun s hs=>by
 have hs2:s∈(⟨4,p.k,0,[]⟩::(s6 p++s7 p++s8 p))++(p.ns.take p.ns.length).map n10:=hs;rw [QaP] at hs2;rcases Qy4.1 hs2 with k | k
 ·rcases List.mem_cons.1 k with rfl | k
  ·exact sok ((Qrb _).trans h.k) rfl
  ·rcases Qy4.1 k with k | k
   ·rcases Qy4.1 k with k | k
    ·by_cases e:p.s=[]
     ·rw [QhU e] at k;cases k
     ·rw [QlW e,Qy3] at k;subst k;exact sok (chk6 h.s) rfl
    ·by_cases e:p.e=[]
     ·rw [QgC e] at k;cases k
     ·rw [Qeh e,Qy3] at k;subst k;exact sok ((chk7 _).trans (h.e.resolve_left e)) rfl
   ·by_cases e:0 < p.a
    ·rw [QaN e,Qy3] at k;subst k;exact sok (chk8 h.a) rfl
    ·rw [J9 e] at k;cases k
 ·exact Ql1 h.nb s k
theorem QgG {ps:List PeerS} {f:PeerS→List SetS} (h:∀ p∈ps,∀ s∈f p,Qx s):∀ s∈ps.flatMap f,Qx s:=fun s hs=>by
 obtain ⟨p,hp,hm⟩:=List.mem_flatMap.1 hs;exact h p hp s hm
theorem QaQ {c:ConfS} (h:ConfOk c):∀ s∈JU c,Qx s:=fun s hs=>by
 have hs2:s∈(c1S c++c2S c)++(c.ps.take c.ps.length).flatMap WQ:=hs;rw [List.take_length] at hs2;rcases Qy4.1 hs2 with k | k
 ·rcases Qy4.1 k with k | k
  ·by_cases e:c.k=[]
   ·rw [Qpj e] at k;cases k
   ·rw [QlX e,Qy3] at k;subst k;exact sok ((chk1 _).trans (h.k.resolve_left e)) rfl
  ·by_cases e:0 < c.port
   ·rw [QlY e,Qy3] at k;subst k;exact sok (chk2 h.port) rfl
   ·rw [QhV e] at k;cases k
 ·exact QgG (fun p hp=>QhY (h.ps p hp).1) s k
theorem Quc {l:LnP} (h:(W0 l).2=0):Qx (W0 l).1:=by
 refine ⟨(Qin h).2,?_⟩;unfold W0 at h ⊢;by_cases h0:Q1 l.1 10=0
 ·rw [if_pos h0] at h;cases h
 ·rw [if_neg h0] at h ⊢;split at h
  ·rename_i q
   rw [if_pos q];show (rd0 l).p.length≤32;unfold rd0;split
   ·exact Qy6 _
   ·split
    ·exact Qy6 _
    ·split
     ·exact QjZ _
     ·split <;> exact Qy6 _
  ·cases h
theorem Qrc {s:List UInt8} (h:(Wm s).2.2=0):∀ x∈(Wm s).1,Qx x:=by
 unfold Wm at h ⊢;by_cases h1:(Qy s).2.2=0
 ·rw [if_pos h1] at h ⊢;rcases QdN (Qy s).1 [] 0 with ⟨e,q⟩ | ⟨n,e,k1,k2,k3⟩
  ·rw [e,List.nil_append];intro y hy;obtain ⟨x,hx,rfl⟩:=List.mem_map.1 hy;exact Quc (q x hx)
  ·rw [k1] at h;exact absurd h k2
 ·rw [if_neg h1] at h;exact absurd h h1
def QaR (c:ConfS) (s:List UInt8):ConfS×Int×Int:=if (Wm s).2.2=0 then ZX c (Wm s).1 else (Q4,(Wm s).2.1,(Wm s).2.2)
end
section
open Go.RowKit
theorem Qjs {c:ConfS} {a:List UInt8} {s:SetS} (h:ConfOk c) (ha:Qb0 a) (hs:Qx s):Cf Tryz.prog 26 [] [Qp c,.s a,Z9 s] [] (.tup [Qp (Qi c a s).1,.s (Qi c a s).2.1,.i (Qi c a s).2.2]):=by
 obtain ⟨k1,k2,k3,k4,k5,k6,k7,k8,k9⟩:=YI hs.1;have ok:=(Xs h ha hs).1;obtain ⟨sk,st,sn,sp⟩:=s;simp only at k1 k2 k3 k4 k5 k6 k7 k8 k9;by_cases e1:sk=1
 ·subst e1;obtain rfl:sn=0:=k4 (by decide);obtain rfl:sp=[]:=k5 (by decide);rcases Vf c.ps st with ⟨q,_⟩ | ⟨i,hi,q,_⟩
  ·have e:Qi c a ⟨1,st,0,[]⟩=(⟨st,c.port,c.ps⟩,[],0):=by
    show (if Qv c.ps st = -1 then (⟨st,c.port,c.ps⟩,[],0) else noS 14)=_;rw [if_pos q]
   rw [e] at ok ⊢;exact QqU q h hs ok
  ·have e:Qi c a ⟨1,st,0,[]⟩=noS 14:=by
    show (if Qv c.ps st = -1 then (⟨st,c.port,c.ps⟩,[],0) else noS 14)=_;rw [if_neg (by omega)]
   rw [e];exact QqV q h hs
 by_cases e2:sk=2
 ·subst e2;obtain rfl:st=[]:=k3 (by decide);obtain rfl:sp=[]:=k5 (by decide);exact QtU h hs ok
 by_cases e3:sk=3
 ·subst e3;obtain rfl:st=[]:=k3 (by decide);obtain rfl:sn=0:=k4 (by decide);obtain rfl:sp=[]:=k5 (by decide);exact QtV h hs ok
 by_cases e4:sk=4
 ·subst e4;obtain rfl:sn=0:=k4 (by decide);obtain rfl:sp=[]:=k5 (by decide);have e:Qi c a ⟨4,st,0,[]⟩=if st=c.k then noS 14 else if ¬ Qv c.ps st = -1 then (c,st,0) else if c.ps.length=6 then noS 7 else (Qer c st,st,0):=rfl
  rw [e] at ok ⊢;by_cases q:st=c.k
  ·rw [if_pos q];subst q;exact QqW h hs
  rw [if_neg q] at ok ⊢;rcases Vf c.ps st with ⟨q2,_⟩ | ⟨i,hi,q2,_⟩
  ·rw [if_neg (not_not_intro q2)] at ok ⊢;by_cases q3:c.ps.length=6
   ·rw [if_pos q3];exact QqY q3 q2 q h hs
   ·rw [if_neg q3] at ok ⊢;exact QqZ (Nat.lt_of_le_of_ne h.pl q3) q2 q h hs ok
  ·rw [if_pos (by omega)] at ok ⊢;exact QqX q2 q h hs ok
 have h5:5≤sk:=by omega
 have eo:Qi c a ⟨sk,st,sn,sp⟩=if a=[]∨Qv c.ps a = -1 then noS 13 else Qes c a (Qv c.ps a).toNat ⟨sk,st,sn,sp⟩:=by
  show (if sk=1 then _ else if sk=2 then _ else if sk=3 then _ else if sk=4 then _ else if a=[]∨Qv c.ps a = -1 then noS 13 else Qes c a (Qv c.ps a).toNat ⟨sk,st,sn,sp⟩)=_;rw [if_neg e1,if_neg e2,if_neg e3,if_neg e4]
 rw [eo] at ok ⊢;by_cases q:a=[]
 ·rw [if_pos (.inl q)];subst q;exact Qq1 h5 h hs
 rcases Vf c.ps a with ⟨q2,_⟩ | ⟨i,hi,q2,_⟩
 ·rw [if_pos (.inr q2)];exact Qq0 h5 q2 h hs
 rw [if_neg (by rw [not_or];exact ⟨q,by omega⟩),q2,Int.toNat_natCast] at ok ⊢;by_cases e5:sk=5
 ·subst e5;obtain rfl:st=[]:=k3 (by decide);obtain rfl:sn=0:=k4 (by decide);obtain rfl:sp=[]:=k5 (by decide);exact Qt4 q hi q2 h hs ok
 by_cases e6:sk=6
 ·subst e6;obtain rfl:sn=0:=k4 (by decide);obtain rfl:sp=[]:=k5 (by decide);exact QtW q hi q2 h hs ok
 by_cases e7:sk=7
 ·subst e7;obtain rfl:sn=0:=k4 (by decide);obtain rfl:sp=[]:=k5 (by decide);exact QtX q hi q2 h hs ok
 by_cases e8:sk=8
 ·subst e8;obtain rfl:st=[]:=k3 (by decide);obtain rfl:sp=[]:=k5 (by decide);exact QtY q hi q2 h hs ok
 by_cases e9:sk=9
 ·subst e9;obtain rfl:st=[]:=k3 (by decide);obtain rfl:sn=0:=k4 (by decide);obtain rfl:sp=[]:=k5 (by decide);exact QtZ q hi q2 h hs ok
 obtain rfl:sk=10:=by omega
 obtain rfl:st=[]:=k3 (by decide);obtain rfl:sn=0:=k4 (by decide);have eq:Qes c a i ⟨10,[],0,sp⟩=if Wn c i sp then noS 7 else (⟨c.k,c.port,Qq c.ps i sp⟩,a,0):=rfl
 rw [eq] at ok ⊢;have hpl:=h.pl;have hi6:i=0∨i=1∨i=2∨i=3∨i=4∨i=5:=by omega
 by_cases hf:Wn c i sp
 ·rw [if_pos hf];rcases hi6 with rfl | rfl | rfl | rfl | rfl | rfl
  ·exact QlJ q hi q2 hf h hs
  ·exact QlL q hi q2 hf h hs
  ·exact QlN q hi q2 hf h hs
  ·exact QlP q hi q2 hf h hs
  ·exact QlR q hi q2 hf h hs
  ·exact QlT q hi q2 hf h hs
 ·rw [if_neg hf] at ok ⊢;rcases hi6 with rfl | rfl | rfl | rfl | rfl | rfl
  ·exact QlI q hi q2 hf h hs ok
  ·exact QlK q hi q2 hf h hs ok
  ·exact QlM q hi q2 hf h hs ok
  ·exact QlO q hi q2 hf h hs ok
  ·exact QlQ q hi q2 hf h hs ok
  ·exact QlS q hi q2 hf h hs ok
end
section
open Go.RowKit
theorem Xl {c:ConfS} (h:ConfOk c):Cf Tryz.prog 64 [] [Qp c] [] (Qp c):=by
 have hl:=hl3 h;have h8:=h86 h;refine Qs {} Tryz.func64 Tryz.ntmps64 ?_
 repeat refine o3 ?_
 refine ⟨Nat,fun i=>⟨[(1,.own 1001 0),(2,.own 1002 0),(3,.osl 61 i),(11,Qo c.ps),(12,.i (c.ps.length:Int)),(13,.i (i:Int))],[(1001,.box [.s c.k,.i c.port,Qo c.ps] 25),(1002,.box [.s [],.i 0,.nil] 25),(61,.rz i 5 (fun a b=>Qk (c.ps.getD a Qa) b) 33 0)]⟩,fun i=>i≤c.ps.length,fun i=>c.ps.length - i,0,Qy6 _,?_,fun i hx1=>?_⟩
 ·skip
  repeat refine o11 ?_
  trivial
 refine ⟨fun h1=>?_,fun h1=>?_⟩
 ·skip
  have c1:=h1
  (simp only [bsX] at c1)
  have hi:i < c.ps.length:=by omega
  repeat refine o4 ?_
  refine clX (QhK (ns:=(c.ps.getD i Qa).ns) (h8 _ (QY hi))) ?_
  repeat refine o44 ?_
  refine Ql (i+1) ?_
  repeat refine o93 ?_
  trivial
 ·skip
  have c1:=h1
  (simp only [bsX] at c1)
  repeat refine o11 ?_
  trivial
theorem Qpm {c:ConfS} {L:List SetS} {i:Nat} (h:ConfOk c) (hL:∀ s∈L,Qx s) (hi:i < L.length):Cf Tryz.prog 26 [] [Qp (ZK c L i).1,.s (ZK c L i).2.1,Z9 (L.getD i Qm)] [] (.tup [Qp (ZK c L (i+1)).1,.s (ZK c L (i+1)).2.1,.i (ZK c L (i+1)).2.2]) :=
 Qjs (QcY h hL i (by omega)).1 (QcY h hL i (by omega)).2 (hL _ (VI hi))
theorem XU {c:ConfS} {L:List SetS} (h:ConfOk c) (hL:∀ s∈L,Qx s) (hn:L.length≤60):Cf Tryz.prog 22 [] [Qp c,Wz L] [] (.tup [Qp (ZX c L).1,.i (ZX c L).2.1,.i (ZX c L).2.2]):=by
 refine Qs {} Tryz.func22 Tryz.ntmps22 ?_;refine clX (Qh h) ?_
 repeat refine o1 ?_
 refine knF ?_;refine ⟨fun h2=>?_,fun h2=>?_⟩
 ·skip
  have c2:=h2
  (simp only [bsX] at c2)
  exact absurd c2 (by omega)
 ·skip
  have c2:=h2
  (simp only [bsX] at c2)
  refine clX (Xl h) ?_
  repeat refine o1 ?_
  refine ⟨Nat,fun i=>⟨[(4,.own 1004 0),(8,.own 1008 0),(9,.s (ZK c L i).2.1),(27,Wz L),(28,.i (L.length:Int)),(29,.i (i:Int))],[(1004,.box [.s [],.i 0,.nil] 25),(1008,.box [.s (ZK c L i).1.k,.i (ZK c L i).1.port,Qo (ZK c L i).1.ps] 25)]⟩,fun i=>i≤L.length∧ZX c L=Yx (ZK c L i).1 (ZK c L i).2.1 i (L.drop i),fun i=>L.length - i,0,⟨Qy6 _,rfl⟩,?_,fun i hx1=>?_⟩
  ·skip
   repeat refine o1 ?_
   trivial
  refine ⟨fun h3=>?_,fun h3=>?_⟩
  ·skip
   have c3:=h3
   (simp only [bsX] at c3)
   have hi:i < L.length:=by omega
   repeat refine o4 ?_
   refine clX (Qpm h hL hi) ?_
   repeat refine o1 ?_
   refine ⟨fun h4=>?_,fun h4=>?_⟩
   ·skip
    have c4:=h4
    (simp only [bsX] at c4)
    have hR:ZX c L=(Q4,(i:Int)+1,(ZK c L (i+1)).2.2):=by rw [hx1.2,QeP hi,if_neg c4]
    repeat (refine Ob.mk ?_ ?_;focus (first | (rw [hR];done) | (rw [hR];rfl) | omega))
    trivial
   ·skip
    have c4:=h4
    (simp only [bsX] at c4)
    have hnx:i+1≤L.length∧ZX c L=Yx (ZK c L (i+1)).1 (ZK c L (i+1)).2.1 (i+1) (L.drop (i+1)):=⟨hi,by rw [hx1.2,QeP hi,if_pos c4]⟩
    repeat refine o3 ?_
    refine Ql (i+1) ?_
    repeat refine o1 ?_
    trivial
  ·skip
   have c3:=h3
   (simp only [bsX] at c3)
   have hi:i=L.length:=by omega
   have hR:ZX c L=((ZK c L i).1,0,0):=by rw [hx1.2,hi,List.drop_length];rfl
   repeat (refine Ob.mk ?_ ?_;focus (first | (rw [hR];done) | (rw [hR];exact fun _ _ _ _=>rfl)))
   trivial
theorem QgH {c:ConfS} {s:List UInt8} (h:ConfOk c):Cf Tryz.prog 29 [] [Qp c,.s s] [] (.tup [Qp (QaR c s).1,.i (QaR c s).2.1,.i (QaR c s).2.2]):=by
 refine Qs {} Tryz.func29 Tryz.ntmps29 ?_;refine clX (Qh h) ?_
 repeat refine o1 ?_
 refine knF ?_;refine clX (QdP (s:=s)) ?_
 repeat refine o0 ?_
 refine ⟨fun h2=>?_,fun h2=>?_⟩
 ·skip
  have c2:=h2
  (simp only [bsX] at c2)
  have hR:QaR c s=(Q4,(Wm s).2.1,(Wm s).2.2):=if_neg c2
  repeat refine o46 ?_
  trivial
 ·skip
  have c2:=h2
  (simp only [bsX] at c2)
  have hR:QaR c s=ZX c (Wm s).1:=if_pos c2;have hp1:=Qrc c2;have hp2:=(QtT c2).2.2;refine clX (XU h hp1 hp2) ?_
  repeat (refine Ob.mk ?_ ?_;focus (first | (rw [hR];done) | (exact fun _ _ _ _=>rfl) | (rw [hR];exact fun _ _ _ _=>rfl) | (exact Eq.refl _)))
  trivial
end
section
open Go.RowKit Go.Lib
def ntA:List Bool:=[false,false,false,false,true,false,true,false,false,false,false,false,false,false,true,false]
def ntB:List Bool:=[false,false,false,false,true,false,true,false,false,false,false,false,false,false,false,true]
def QdR (e:Nat):List UInt8:=if e=0 then [49,48,46,48,46,48,46,50,58,50,48,48,48] else [49,48,46,48,46,48,46,49,58,49,48,48,48]
def Qb4 (e:Nat):List Bool:=if e=0 then ntA else ntB
def cS (e:Nat):ConfS:=⟨W5 e,0,[⟨W5 (1 - e),[],QdR e,0,[Qb4 e]⟩]⟩
def QnM (e:Nat):List SetS:=[⟨1,W5 e,0,[]⟩,⟨4,W5 (1 - e),0,[]⟩,⟨7,QdR e,0,[]⟩,⟨10,[],0,Qb4 e⟩]
theorem Qxz:∀ e,e < 2→ConfOk (cS e):=fun e he=>by
 have k:∀ e,e < 2→Y3 (QdR e)=0∧W5 (1 - e)≠W5 e∧(Qb4 e).length≤32:=by decide +kernel
 obtain ⟨k3,k4,k5⟩:=k e he;have k1:=Ys e (by omega);have k2:=Ys (1 - e) (by omega);refine ⟨.inr k1,⟨by show (0:Int)≤0;decide,by show (0:Int)≤65535;decide⟩,by show 1≤6;decide,fun p hp=>?_,Qy5 _ _,?_⟩
 ·obtain rfl:=Qy3.1 hp;exact ⟨⟨k2,.inl rfl,.inr k3,⟨Int.le_refl _,by show (0:Int)≤65535;decide⟩,by show 1≤8;decide,fun n hn=>by rw [Qy3.1 hn];exact k5,Qy5 _ _⟩,k4⟩
 ·show ([Qb4 e]++[]).Nodup;rw [List.append_nil];exact Qy5 _ _
theorem Qpp:∀ e,e < 2→JU (cS e)=QnM e:=fun e he=>by
 have k:∀ e,e < 2→W5 e≠[]∧QdR e≠[]:=by decide +kernel
 obtain ⟨k1,k2⟩:=k e he;show (c1S (cS e)++c2S (cS e))++[⟨W5 (1 - e),[],QdR e,0,[Qb4 e]⟩].flatMap WQ=_;rw [QlX (c:=cS e) k1,QhV (c:=cS e) (by show ¬ (0:Int) < 0;decide)]
 have:WQ ⟨W5 (1 - e),[],QdR e,0,[Qb4 e]⟩=[⟨4,W5 (1 - e),0,[]⟩,⟨7,QdR e,0,[]⟩,⟨10,[],0,Qb4 e⟩]:=by
  show (⟨4,W5 (1 - e),0,[]⟩::(s6 ⟨W5 (1 - e),[],QdR e,0,[Qb4 e]⟩++s7 ⟨W5 (1 - e),[],QdR e,0,[Qb4 e]⟩++s8 ⟨W5 (1 - e),[],QdR e,0,[Qb4 e]⟩))++[n10 (Qb4 e)]=_;rw [QhU (p:=⟨W5 (1 - e),[],QdR e,0,[Qb4 e]⟩) rfl,Qeh (p:=⟨W5 (1 - e),[],QdR e,0,[Qb4 e]⟩) k2,J9 (p:=⟨W5 (1 - e),[],QdR e,0,[Qb4 e]⟩) (by show ¬ (0:Int) < 0;decide)];rfl
 rw [List.flatMap_singleton,this];rfl
theorem Ql3 (e:Nat) (he:e < 2):∀ s∈QnM e,Qx s:=by rw [← Qpp e he];exact QaQ (Qxz e he)
def QwU (e:Nat):List UInt8:=jtx ((QnM e).map ls1)
theorem Qui (e:Nat) (he:e < 2):QaR Q4 (QwU e)=(cS e,0,0):=by
 have h:=(Ju (L:=QnM e) (Ql3 e he) (by show 4≤30;decide)).2.1;have h2:Wm (QwU e)=(QnM e,0,0):=h;unfold QaR;rw [h2,if_pos rfl,← Qpp e he];exact QdQ (Qxz e he)
def stw (s:SetS):Nat→EV
 | 3=>.v (.int .u32 ((adr s.p).toNat:Int))
 | j=>stc s j
theorem QyL (s:SetS):∀ j,j < 5→(stw s j).pv=(stc s j).pv:=by
 intro j hj
 match j,hj with
 | 0,_=>rfl
 | 1,_=>rfl
 | 2,_=>rfl
 | 3,_=>rfl
 | 4,_=>rfl
abbrev stW (L:List SetS):Nat→Nat→EV:=fun i j=>stw (L.getD i Qm) j
theorem Qc4 (L:List SetS):(EV.lz L.length 5 (stW L)).av=(Wz L).av:=QbH fun i _ j hj=>QyL (L.getD i Qm) j hj
theorem adr_A:adr ntA=167903232:=by decide +kernel
theorem QyM:EV.v (.int .u32 167903232)=stw (n10 (Qb4 0)) 3:=by
 show EV.v (.int .u32 167903232)=EV.v (.int .u32 ((adr ntA).toNat:Int));rw [adr_A];rfl
theorem Cf.arg1 {P:Program} {f:FuncId} {hin hout:List (Nat×EB)} {r x y:EV} (h:x.av=y.av) (k:Cf P f hin [x] hout r):Cf P f hin [y] hout r:=by
 unfold Cf Ct at k ⊢;have e:avL [x]=avL [y]:=congrArg (fun z=>[z]) h;rw [← e];exact k
theorem Quj (he:(0:Nat) < 2):Cf Tryz.prog 43 [] [.i 0] [] (.s (QwU 0)):=by
 have hT:=(VJ (L:=QnM 0) (Ql3 0 he) (by show 4≤30;decide)).arg1 (Qc4 (QnM 0)).symm;refine QV {} Tryz.func43 Tryz.ntmps43 ?_;refine ⟨[0,1,3,0,8,27,59,0,0,384,896,1920,0,0,12288,28672,61440,126976,262143,524287,1048575],by kernel_rfl,?_⟩;refine clX (JV (i:=0) (by decide)) ?_
 repeat refine o32 ?_
 refine clX (JV (i:=1) (by decide)) ?_
 repeat refine o32 ?_
 refine clX hT ?_
 repeat (refine Ob.mk ?_ ?_;focus (first | (exact VU (N:=4) ⟨⟨rfl,rfl,rfl,QyM,rfl⟩,⟨rfl,rfl,rfl,rfl,rfl⟩,⟨rfl,rfl,rfl,rfl,rfl⟩,⟨rfl,rfl,rfl,rfl,rfl⟩,trivial⟩) | (exact Eq.refl _)))
 trivial
theorem QwV (he:(0:Nat) < 2):Cf Tryz.prog 20 [] [] [] (.b true):=by
 have hT:=QgH (c:=Q4) (s:=QwU 0) ZG;rw [Qui 0 he] at hT;refine QV {} Tryz.func20 Tryz.ntmps20 ?_;refine clX (Quj he) ?_
 repeat refine o80 ?_
 refine clX hT ?_
 repeat (refine Ob.mk ?_ ?_;focus (first | (simp [cS];done) | (exact Eq.refl _)))
 refine ⟨[0,1,3,7,15,7,63,127,255,511,1023,2047,4095,8191,16383,32767,65535,131071,262143,524287,1048575,2097151,4194303,8388607],by kernel_rfl,?_⟩
 repeat refine o80 ?_
 refine gx (fun hc=>(JV (i:=0) (by decide))) (fun hk=>⟨hk,?_⟩)
 repeat refine o80 ?_
 trivial
theorem VX:Cf Tryz.prog 20 [] [] [] (.b true):=QwV (by decide)
end
end Go.Proofs.YtcebndkiagbddaaGreatDoor
