/- ConfOwned: every network of a peer has this peer as its owner in the trie, and the trie contains no other networks: the statement holds of the program, for every input. No further condition. -/
import Derived.Test.YtcebndkiagbddaaGreatDoorTie
import Derived.Test.YtcebndkiagbddaaGreatDoorCards
import Derived.Lay
import Derived.SevenTiedAt
import Derived.MakeChecks
import Derived.Lib.LaidTab
import Derived.Stop.LaidErr
import Derived.Test.YtcebndkiagbddaaGreatDoorK51
import Derived.Test.YtcebndkiagbddaaGreatDoorK50
import Derived.Test.YtcebndkiagbddaaGreatDoorK49
import Derived.Test.YtcebndkiagbddaaGreatDoorK45
import Derived.Test.YtcebndkiagbddaaGreatDoorK38
import Derived.Test.YtcebndkiagbddaaGreatDoorK33
set_option linter.unusedVariables false
set_option linter.unusedSimpArgs false
set_option maxRecDepth 100000
set_option maxHeartbeats 4000000
open List renaming mem_singleton -> Qxo, mem_append -> Qxp, pairwise_singleton -> Qxr, mem_append_left -> Qxt, length_cons -> Qxw
open Nat renaming zero_le -> Qxq
open Eq renaming refl -> Qxs
namespace Go.Proofs.YtcebndkiagbddaaGreatDoor
section
open Go.Lib
def remB (b:ConfS) (p:PeerS):Bool:=decide (fE b.ps p.k≠0\/QvJ p (fP b.ps p.k)=true)
def remK (b:ConfS) (ps:List PeerS):List (List UInt8):=(ps.filter (remB b)).map (·.k)
def keepG (a b:ConfS) (i:Nat) (x:List UInt8):Option PeerS:=if x∈remK b (a.ps.take i) then none else Wn a.ps x
structure RelP (N:List (List Bool)) (p q:PeerS):Prop where
 k:q.k=p.k
 s:q.s=p.s
 e:q.e=p.e
 a:q.a=p.a
 sub:∀ n∈q.ns,n∈p.ns
 sup:∀ n∈p.ns,n ∉ N->n∈q.ns
def Qso (N:List (List Bool)):Option PeerS->Option PeerS->Prop
 | none,none=>True
 | some p,some q=>RelP N p q
 | _,_=>False
theorem Qso.more {N M:List (List Bool)} {o o':Option PeerS} (h:Qso N o o'):Qso (N++M) o o':=by
 cases o with
 | none=>cases o' with
  | none=>trivial
  | some q=>exact h
 | some p=>cases o' with
  | none=>exact h
  | some q=>exact ⟨h.k,h.s,h.e,h.a,h.sub,fun n hn hm=>h.sup n hn fun k=>hm (Qxt _ k)⟩
theorem Qso.del {N M:List (List Bool)} {o o':Option PeerS} (h:Qso N o o'):Qso (N++M) o (o'.map (J8 M)):=by
 cases o with
 | none=>cases o' with
  | none=>trivial
  | some q=>exact h
 | some p=>cases o' with
  | none=>exact h
  | some q =>
   obtain ⟨f1,f2,f3,f4⟩:=Qw5 M q;exact ⟨f1.trans h.k,f2.trans h.s,f3.trans h.e,f4.trans h.a,fun n hn=>h.sub n (QeG.1 hn).1,fun n hn hm=>QeG.2 ⟨h.sup n hn fun k=>hm (Qxt _ k),fun k=>hm (List.mem_append_right _ k)⟩⟩
abbrev Qu6 (ps:List PeerS):List (List Bool):=ps.flatMap (·.ns)
structure DInv (a b:ConfS) (j:Nat) (d:ConfS):Prop where
 ok:ConfOk d
 k:d.k=b.k
 port:d.port=b.port
 done:∀ x∈(b.ps.take j).map (·.k),Wn d.ps x=Wn b.ps x
 todo:∀ x,x ∉ (b.ps.take j).map (·.k)->Qso (Qu6 (b.ps.take j)) (keepG a b a.ps.length x) (Wn d.ps x)
theorem QfI {ps:List PeerS} {j:Nat} (hj:j < ps.length):(ps.take (j+1)).map (·.k)=(ps.take j).map (·.k)++[(ps.getD j Qa).k]:=by
 rw [Jz hj,List.map_append];rfl
theorem Qo4 {ps:List PeerS} {j:Nat} (hj:j < ps.length):Qu6 (ps.take (j+1))=Qu6 (ps.take j)++(ps.getD j Qa).ns:=by
 unfold Qu6;rw [Jz hj,List.flatMap_append];simp
theorem DInv.step {a b d e:ConfS} {j:Nat} {k:List UInt8} (hb:ConfOk b) (hj:j < b.ps.length) (h:DInv a b j d) (ok:ConfOk e) (hk:e.k=b.k) (hp:e.port=b.port)
  (hE:(∀ x,Wn e.ps x=if x=(pA b j).k then some (pA b j) else (Wn d.ps x).map (J8 (pA b j).ns))\/(∀ x,Wn e.ps x=if x=(pA b j).k then some (pA b j) else Wn d.ps x)):DInv a b (j+1) e:=by
 have hi:=Z1.1 hb.inc;have hm:=Zy (ps:=b.ps) (i:=j) hj;refine ⟨ok,hk,hp,fun x hx=>?_,fun x hx=>?_⟩
 ·rw [QfI hj] at hx;by_cases ex:x=(pA b j).k
  ·have g:=QcN hi hm;rcases hE with hE | hE
   ·rw [hE,if_pos ex,ex];exact g.symm
   ·rw [hE,if_pos ex,ex];exact g.symm
  ·have hx2:x∈(b.ps.take j).map (·.k):=by
    rcases Qxp.1 hx with q | q
    ·exact q
    ·exact absurd (Qxo.1 q) ex
   have hd:=h.done x hx2;rcases hE with hE | hE
   ·rw [hE,if_neg ex,hd]
    cases g:Wn b.ps x with
    | none=>rfl
    | some r =>
     show some (J8 _ r)=some r;obtain ⟨m,mk⟩:=Jb g;rw [Qna];intro n hn hmm;exact QjH hb.nd hm m (fun q=>ex (by rw [<- mk,<- q])) n hn hmm
   ·rw [hE,if_neg ex,hd]
 ·rw [QfI hj,Qxp,Qxo,not_or] at hx;have ht:=h.todo x hx.1;rw [Qo4 hj];rcases hE with hE | hE
  ·rw [hE,if_neg hx.2];exact ht.del
  ·rw [hE,if_neg hx.2];exact ht.more
end
section
open Go.Lib
theorem chk1 (t:List UInt8):Zc ⟨1,t,0,[]⟩=ZX t:=by simp [Zc,isT,isN]
theorem chk2 {n:Int} (h:0<=n/\n<=65535):Zc ⟨2,[],n,[]⟩=0:=by simp [Zc,isT,isN];omega
theorem chk4 (t:List UInt8):Zc ⟨4,t,0,[]⟩=ZX t:=by simp [Zc,isT,isN]
theorem chk6 {t:List UInt8} (h:t=[]\/(t≠W5/\ZX t=0)):Zc ⟨6,t,0,[]⟩=0:=by
 have:Zc ⟨6,t,0,[]⟩=if t=[] then 0 else if t=W5 then 3 else ZX t:=by simp [Zc,isT,isN]
 rw [this];rcases h with h | ⟨h1,h2⟩
 ·rw [if_pos h]
 ·by_cases e:t=[]
  ·rw [if_pos e]
  ·rw [if_neg e,if_neg h1];exact h2
theorem chk7 (t:List UInt8):Zc ⟨7,t,0,[]⟩=Xx t:=by simp [Zc,isT,isN]
theorem chk8 {n:Int} (h:0<=n/\n<=65535):Zc ⟨8,[],n,[]⟩=0:=by simp [Zc,isT,isN];omega
theorem chk10 (n:List Bool):Zc ⟨10,[],0,n⟩=0:=by simp [Zc,isT,isN]
theorem sok {s:SetS} (h:Zc s=0) (hp:s.p=[]):QT s:=⟨h,by rw [hp];exact Qxq _⟩
theorem Qsp {M:List (List Bool)} (h:∀ n∈M,n.length<=32):∀ s∈M.map n10,QT s:=fun s hs=>by
 obtain ⟨n,hn,rfl⟩:=List.mem_map.1 hs;exact ⟨chk10 n,h n hn⟩
theorem Qo5 {p:PeerS} (h:PeerOk p):∀ s∈JN p,QT s:=fun s hs=>by
 have hs2:s∈(⟨4,p.k,0,[]⟩::(s6 p++s7 p++s8 p))++(p.ns.take p.ns.length).map n10:=hs;rw [QjG] at hs2;rcases Qxp.1 hs2 with k | k
 ·rcases List.mem_cons.1 k with rfl | k
  ·exact sok ((chk4 _).trans h.k) rfl
  ·rcases Qxp.1 k with k | k
   ·rcases Qxp.1 k with k | k
    ·by_cases e:p.s=[]
     ·rw [Qsh e] at k;cases k
     ·rw [QvE e,Qxo] at k;subst k;exact sok (chk6 h.s) rfl
    ·by_cases e:p.e=[]
     ·rw [QvF e] at k;cases k
     ·rw [Qsi e,Qxo] at k;subst k;exact sok ((chk7 _).trans (h.e.resolve_left e)) rfl
   ·by_cases e:0 < p.a
    ·rw [QvG e,Qxo] at k;subst k;exact sok (chk8 h.a) rfl
    ·rw [Qsj e] at k;cases k
 ·exact Qsp h.nb s k
theorem Qsq {ps:List PeerS} {f:PeerS->List SetS} (h:∀ p∈ps,∀ s∈f p,QT s):∀ s∈ps.flatMap f,QT s:=fun s hs=>by
 obtain ⟨p,hp,hm⟩:=List.mem_flatMap.1 hs;exact h p hp s hm
theorem Qsr {c:ConfS} (h:ConfOk c):∀ s∈Qu5 c,QT s:=fun s hs=>by
 have hs2:s∈(c1S c++c2S c)++(c.ps.take c.ps.length).flatMap JN:=hs;rw [List.take_length] at hs2;rcases Qxp.1 hs2 with k | k
 ·rcases Qxp.1 k with k | k
  ·by_cases e:c.k=[]
   ·rw [QvH e] at k;cases k
   ·rw [Qsk e,Qxo] at k;subst k;exact sok ((chk1 _).trans (h.k.resolve_left e)) rfl
  ·by_cases e:0 < c.port
   ·rw [QvI e,Qxo] at k;subst k;exact sok (chk2 h.port) rfl
   ·rw [Qsl e] at k;cases k
 ·exact Qsq (fun p hp=>Qo5 (h.ps p hp).1) s k
theorem Qss {l:LnP} (h:(Wv l).2=0):QT (Wv l).1:=by
 refine ⟨(QgT h).2,?_⟩;unfold Wv at h ⊢;by_cases h0:QI l.1 10=0
 ·rw [if_pos h0] at h;cases h
 ·rw [if_neg h0] at h ⊢;split at h
  ·rename_i q
   rw [if_pos q];show (rd0 l).p.length<=32;unfold rd0;split
   ·exact Qxq _
   ·split
    ·exact Qxq _
    ·split
     ·exact QiU _
     ·split <;> exact Qxq _
  ·cases h
theorem Qo6 {s:List UInt8} (h:(Wd s).2.2=0):∀ x∈(Wd s).1,QT x:=by
 unfold Wd at h ⊢;by_cases h1:(Qm s).2.2=0
 ·rw [if_pos h1] at h ⊢;rcases QbN (Qm s).1 [] 0 with ⟨e,q⟩ | ⟨n,e,k1,k2,k3⟩
  ·rw [e,List.nil_append];intro y hy;obtain ⟨x,hx,rfl⟩:=List.mem_map.1 hy;exact Qss (q x hx)
  ·rw [k1] at h;exact absurd h k2
 ·rw [if_neg h1] at h;exact absurd h h1
def QeH (c:ConfS) (s:List UInt8):ConfS×Int×Int:=if (Wd s).2.2=0 then Qes c (Wd s).1 else (WW,(Wd s).2.1,(Wd s).2.2)
end
section
open Go.RowKit
theorem Qw7 {c:ConfS} {a:List UInt8} {s:SetS} (h:ConfOk c) (ha:QrL a) (hs:QT s):Cf Tryz.prog 26 [] [Qn c,.s a,Zq s] [] (.tup [Qn (WX c a s).1,.s (WX c a s).2.1,.i (WX c a s).2.2]):=by
 obtain ⟨k1,k2,k3,k4,k5,k6,k7,k8,k9⟩:=Xo hs.1;have ok:=(Qm1 h ha hs).1;obtain ⟨sk,st,sn,sp⟩:=s;simp only at k1 k2 k3 k4 k5 k6 k7 k8 k9;by_cases e1:sk=1
 ·subst e1;obtain rfl:sn=0:=k4 (by decide);obtain rfl:sp=[]:=k5 (by decide);rcases Y3 c.ps st with ⟨q,_⟩ | ⟨i,hi,q,_⟩
  ·have e:WX c a ⟨1,st,0,[]⟩=(⟨st,c.port,c.ps⟩,[],0):=by
    show (if Qq c.ps st = -1 then (⟨st,c.port,c.ps⟩,[],0) else noS 14)=_;rw [if_pos q]
   rw [e] at ok ⊢;exact QoL q h hs ok
  ·have e:WX c a ⟨1,st,0,[]⟩=noS 14:=by
    show (if Qq c.ps st = -1 then (⟨st,c.port,c.ps⟩,[],0) else noS 14)=_;rw [if_neg (by omega)]
   rw [e];exact QoM q h hs
 by_cases e2:sk=2
 ·subst e2;obtain rfl:st=[]:=k3 (by decide);obtain rfl:sp=[]:=k5 (by decide);exact Qr1 h hs ok
 by_cases e3:sk=3
 ·subst e3;obtain rfl:st=[]:=k3 (by decide);obtain rfl:sn=0:=k4 (by decide);obtain rfl:sp=[]:=k5 (by decide);exact Qr2 h hs ok
 by_cases e4:sk=4
 ·subst e4;obtain rfl:sn=0:=k4 (by decide);obtain rfl:sp=[]:=k5 (by decide);have e:WX c a ⟨4,st,0,[]⟩=if st=c.k then noS 14 else if ¬ Qq c.ps st = -1 then (c,st,0) else if c.ps.length=6 then noS 7 else (Qjh c st,st,0):=rfl
  rw [e] at ok ⊢;by_cases q:st=c.k
  ·rw [if_pos q];subst q;exact QoN h hs
  rw [if_neg q] at ok ⊢;rcases Y3 c.ps st with ⟨q2,_⟩ | ⟨i,hi,q2,_⟩
  ·rw [if_neg (not_not_intro q2)] at ok ⊢;by_cases q3:c.ps.length=6
   ·rw [if_pos q3];exact QoP q3 q2 q h hs
   ·rw [if_neg q3] at ok ⊢;exact QoQ (Nat.lt_of_le_of_ne h.pl q3) q2 q h hs ok
  ·rw [if_pos (by omega)] at ok ⊢;exact QoO q2 q h hs ok
 have h5:5<=sk:=by omega
 have eo:WX c a ⟨sk,st,sn,sp⟩=if a=[]\/Qq c.ps a = -1 then noS 13 else Qk9 c a (Qq c.ps a).toNat ⟨sk,st,sn,sp⟩:=by
  show (if sk=1 then _ else if sk=2 then _ else if sk=3 then _ else if sk=4 then _ else if a=[]\/Qq c.ps a = -1 then noS 13 else Qk9 c a (Qq c.ps a).toNat ⟨sk,st,sn,sp⟩)=_;rw [if_neg e1,if_neg e2,if_neg e3,if_neg e4]
 rw [eo] at ok ⊢;by_cases q:a=[]
 ·rw [if_pos (.inl q)];subst q;exact QoS h5 h hs
 rcases Y3 c.ps a with ⟨q2,_⟩ | ⟨i,hi,q2,_⟩
 ·rw [if_pos (.inr q2)];exact QoR h5 q2 h hs
 rw [if_neg (by rw [not_or];exact ⟨q,by omega⟩),q2,Int.toNat_natCast] at ok ⊢;by_cases e5:sk=5
 ·subst e5;obtain rfl:st=[]:=k3 (by decide);obtain rfl:sn=0:=k4 (by decide);obtain rfl:sp=[]:=k5 (by decide);exact Qsb q hi q2 h hs ok
 by_cases e6:sk=6
 ·subst e6;obtain rfl:sn=0:=k4 (by decide);obtain rfl:sp=[]:=k5 (by decide);exact Qr3 q hi q2 h hs ok
 by_cases e7:sk=7
 ·subst e7;obtain rfl:sn=0:=k4 (by decide);obtain rfl:sp=[]:=k5 (by decide);exact Qr4 q hi q2 h hs ok
 by_cases e8:sk=8
 ·subst e8;obtain rfl:st=[]:=k3 (by decide);obtain rfl:sp=[]:=k5 (by decide);exact Qr5 q hi q2 h hs ok
 by_cases e9:sk=9
 ·subst e9;obtain rfl:st=[]:=k3 (by decide);obtain rfl:sn=0:=k4 (by decide);obtain rfl:sp=[]:=k5 (by decide);exact Qr6 q hi q2 h hs ok
 obtain rfl:sk=10:=by omega
 obtain rfl:st=[]:=k3 (by decide);obtain rfl:sn=0:=k4 (by decide);have eq:Qk9 c a i ⟨10,[],0,sp⟩=if Zn c i sp then noS 7 else (⟨c.k,c.port,Qh c.ps i sp⟩,a,0):=rfl
 rw [eq] at ok ⊢;have hpl:=h.pl;have hi6:i=0\/i=1\/i=2\/i=3\/i=4\/i=5:=by omega
 by_cases hf:Zn c i sp
 ·rw [if_pos hf];rcases hi6 with rfl | rfl | rfl | rfl | rfl | rfl
  ·exact Qjs q hi q2 hf h hs
  ·exact Qju q hi q2 hf h hs
  ·exact Qjw q hi q2 hf h hs
  ·exact Qjy q hi q2 hf h hs
  ·exact QjA q hi q2 hf h hs
  ·exact QjC q hi q2 hf h hs
 ·rw [if_neg hf] at ok ⊢;rcases hi6 with rfl | rfl | rfl | rfl | rfl | rfl
  ·exact Qjr q hi q2 hf h hs ok
  ·exact Qjt q hi q2 hf h hs ok
  ·exact Qjv q hi q2 hf h hs ok
  ·exact Qjx q hi q2 hf h hs ok
  ·exact Qjz q hi q2 hf h hs ok
  ·exact QjB q hi q2 hf h hs ok
end
section
open Go.RowKit
theorem Qo7 {c:ConfS} (h:ConfOk c):Cf Tryz.prog 64 [] [Qn c] [] (Qn c):=by
 have hl:=hl3 h;have h8:=h86 h;refine Qr {} Tryz.func64 Tryz.ntmps64 ?_
 repeat refine o4 ?_
 refine ⟨Nat,fun i=>⟨[(1,.own 1001 0),(2,.own 1002 0),(3,.osl 61 i),(11,Ws c.ps),(12,.i (c.ps.length:Int)),(13,.i (i:Int))],[(1001,.box [.s c.k,.i c.port,Ws c.ps] 25),(1002,.box [.s [],.i 0,.nil] 25),(61,.rz i 5 (fun a b=>Qe (c.ps.getD a Qa) b) 33 0)]⟩,fun i=>i<=c.ps.length,fun i=>c.ps.length - i,0,Qxq _,?_,fun i hx1=>?_⟩
 ·skip
  repeat refine o7 ?_
  trivial
 refine ⟨fun h1=>?_,fun h1=>?_⟩
 ·skip
  have c1:=h1
  (simp only [bsX] at c1)
  have hi:i < c.ps.length:=by omega
  repeat refine o3 ?_
  refine clX (Qfx (ns:=(c.ps.getD i Qa).ns) (h8 _ (Z0 hi))) ?_
  repeat refine o36 ?_
  refine Qt (i+1) ?_
  repeat refine o78 ?_
  trivial
 ·skip
  have c1:=h1
  (simp only [bsX] at c1)
  repeat refine o7 ?_
  trivial
theorem Qu7 {c:ConfS} {L:List SetS} {i:Nat} (h:ConfOk c) (hL:∀ s∈L,QT s) (hi:i < L.length):Cf Tryz.prog 26 [] [Qn (Yg c L i).1,.s (Yg c L i).2.1,Zq (L.getD i QS)] [] (.tup [Qn (Yg c L (i+1)).1,.s (Yg c L (i+1)).2.1,.i (Yg c L (i+1)).2.2]) :=
 Qw7 (Qg2 h hL i (by omega)).1 (Qg2 h hL i (by omega)).2 (hL _ (Qg3 hi))
theorem Qu8 {c:ConfS} {L:List SetS} (h:ConfOk c) (hL:∀ s∈L,QT s) (hn:L.length<=60):Cf Tryz.prog 22 [] [Qn c,QfG L] [] (.tup [Qn (Qes c L).1,.i (Qes c L).2.1,.i (Qes c L).2.2]):=by
 refine Qr {} Tryz.func22 Tryz.ntmps22 ?_;refine clX (Qf h) ?_
 repeat refine o2 ?_
 refine knF ?_;refine ⟨fun h2=>?_,fun h2=>?_⟩
 ·skip
  have c2:=h2
  (simp only [bsX] at c2)
  exact absurd c2 (by omega)
 ·skip
  have c2:=h2
  (simp only [bsX] at c2)
  refine clX (Qo7 h) ?_
  repeat refine o2 ?_
  refine ⟨Nat,fun i=>⟨[(4,.own 1004 0),(8,.own 1008 0),(9,.s (Yg c L i).2.1),(27,QfG L),(28,.i (L.length:Int)),(29,.i (i:Int))],[(1004,.box [.s [],.i 0,.nil] 25),(1008,.box [.s (Yg c L i).1.k,.i (Yg c L i).1.port,Ws (Yg c L i).1.ps] 25)]⟩,fun i=>i<=L.length/\Qes c L=Qjk (Yg c L i).1 (Yg c L i).2.1 i (L.drop i),fun i=>L.length - i,0,⟨Qxq _,rfl⟩,?_,fun i hx1=>?_⟩
  ·skip
   repeat refine o2 ?_
   trivial
  refine ⟨fun h3=>?_,fun h3=>?_⟩
  ·skip
   have c3:=h3
   (simp only [bsX] at c3)
   have hi:i < L.length:=by omega
   repeat refine o3 ?_
   refine clX (Qu7 h hL hi) ?_
   repeat refine o2 ?_
   refine ⟨fun h4=>?_,fun h4=>?_⟩
   ·skip
    have c4:=h4
    (simp only [bsX] at c4)
    have hR:Qes c L=(WW,(i:Int)+1,(Yg c L (i+1)).2.2):=by rw [hx1.2,Qm2 hi,if_neg c4]
    repeat (refine Ob.mk ?_ ?_;focus (first | (rw [hR];done) | (rw [hR];rfl) | omega))
    trivial
   ·skip
    have c4:=h4
    (simp only [bsX] at c4)
    have hnx:i+1<=L.length/\Qes c L=Qjk (Yg c L (i+1)).1 (Yg c L (i+1)).2.1 (i+1) (L.drop (i+1)):=⟨hi,by rw [hx1.2,Qm2 hi,if_pos c4]⟩
    repeat refine o4 ?_
    refine Qt (i+1) ?_
    repeat refine o2 ?_
    trivial
  ·skip
   have c3:=h3
   (simp only [bsX] at c3)
   have hi:i=L.length:=by omega
   have hR:Qes c L=((Yg c L i).1,0,0):=by rw [hx1.2,hi,List.drop_length];rfl
   repeat (refine Ob.mk ?_ ?_;focus (first | (rw [hR];done) | (rw [hR];exact fun _ _ _ _=>rfl)))
   trivial
theorem Qst {c:ConfS} {s:List UInt8} (h:ConfOk c):Cf Tryz.prog 29 [] [Qn c,.s s] [] (.tup [Qn (QeH c s).1,.i (QeH c s).2.1,.i (QeH c s).2.2]):=by
 refine Qr {} Tryz.func29 Tryz.ntmps29 ?_;refine clX (Qf h) ?_
 repeat refine o2 ?_
 refine knF ?_;refine clX (QoK (s:=s)) ?_
 repeat refine o0 ?_
 refine ⟨fun h2=>?_,fun h2=>?_⟩
 ·skip
  have c2:=h2
  (simp only [bsX] at c2)
  have hR:QeH c s=(WW,(Wd s).2.1,(Wd s).2.2):=if_neg c2
  repeat refine o57 ?_
  trivial
 ·skip
  have c2:=h2
  (simp only [bsX] at c2)
  have hR:QeH c s=Qes c (Wd s).1:=if_pos c2;have hp1:=Qo6 c2;have hp2:=(QrZ c2).2.2;refine clX (Qu8 h hp1 hp2) ?_
  repeat (refine Ob.mk ?_ ?_;focus (first | (rw [hR];done) | (exact fun _ _ _ _=>rfl) | (rw [hR];exact fun _ _ _ _=>rfl) | (exact Qxs _)))
  trivial
end
section
open Go.RowKit Go.Lib
def ntA:List Bool:=[false,false,false,false,true,false,true,false,false,false,false,false,false,false,true,false]
def ntB:List Bool:=[false,false,false,false,true,false,true,false,false,false,false,false,false,false,false,true]
def QbP (e:Nat):List UInt8:=if e=0 then [49,48,46,48,46,48,46,50,58,50,48,48,48] else [49,48,46,48,46,48,46,49,58,49,48,48,48]
def J9 (e:Nat):List Bool:=if e=0 then ntA else ntB
def cS (e:Nat):ConfS:=⟨Wy e,0,[⟨Wy (1 - e),[],QbP e,0,[J9 e]⟩]⟩
def QlB (e:Nat):List SetS:=[⟨1,Wy e,0,[]⟩,⟨4,Wy (1 - e),0,[]⟩,⟨7,QbP e,0,[]⟩,⟨10,[],0,J9 e⟩]
theorem QvL:∀ e,e < 2->ConfOk (cS e):=fun e he=>by
 have k:∀ e,e < 2->Xx (QbP e)=0/\Wy (1 - e)≠Wy e/\(J9 e).length<=32:=by decide +kernel
 obtain ⟨k3,k4,k5⟩:=k e he;have k1:=QaS e (by omega);have k2:=QaS (1 - e) (by omega);refine ⟨.inr k1,⟨by show (0:Int)<=0;decide,by show (0:Int)<=65535;decide⟩,by show 1<=6;decide,fun p hp=>?_,Qxr _ _,?_⟩
 ·obtain rfl:=Qxo.1 hp;exact ⟨⟨k2,.inl rfl,.inr k3,⟨Int.le_refl _,by show (0:Int)<=65535;decide⟩,by show 1<=8;decide,fun n hn=>by rw [Qxo.1 hn];exact k5,Qxr _ _⟩,k4⟩
 ·show ([J9 e]++[]).Nodup;rw [List.append_nil];exact Qxr _ _
theorem Qnf:∀ e,e < 2->Qu5 (cS e)=QlB e:=fun e he=>by
 have k:∀ e,e < 2->Wy e≠[]/\QbP e≠[]:=by decide +kernel
 obtain ⟨k1,k2⟩:=k e he;show (c1S (cS e)++c2S (cS e))++[⟨Wy (1 - e),[],QbP e,0,[J9 e]⟩].flatMap JN=_;rw [Qsk (c:=cS e) k1,Qsl (c:=cS e) (by show ¬ (0:Int) < 0;decide)]
 have:JN ⟨Wy (1 - e),[],QbP e,0,[J9 e]⟩=[⟨4,Wy (1 - e),0,[]⟩,⟨7,QbP e,0,[]⟩,⟨10,[],0,J9 e⟩]:=by
  show (⟨4,Wy (1 - e),0,[]⟩::(s6 ⟨Wy (1 - e),[],QbP e,0,[J9 e]⟩++s7 ⟨Wy (1 - e),[],QbP e,0,[J9 e]⟩++s8 ⟨Wy (1 - e),[],QbP e,0,[J9 e]⟩))++[n10 (J9 e)]=_;rw [Qsh (p:=⟨Wy (1 - e),[],QbP e,0,[J9 e]⟩) rfl,Qsi (p:=⟨Wy (1 - e),[],QbP e,0,[J9 e]⟩) k2,Qsj (p:=⟨Wy (1 - e),[],QbP e,0,[J9 e]⟩) (by show ¬ (0:Int) < 0;decide)];rfl
 rw [List.flatMap_singleton,this];rfl
theorem QjK (e:Nat) (he:e < 2):∀ s∈QlB e,QT s:=by rw [<- Qnf e he];exact Qsr (QvL e he)
def Qvf (e:Nat):List UInt8:=jtx ((QlB e).map ls1)
theorem Qsz (e:Nat) (he:e < 2):QeH WW (Qvf e)=(cS e,0,0):=by
 have h:=(QfJ (L:=QlB e) (QjK e he) (by show 4<=30;decide)).2.1;have h2:Wd (Qvf e)=(QlB e,0,0):=h;unfold QeH;rw [h2,if_pos rfl,<- Qnf e he];exact Qo3 (QvL e he)
def stw (s:SetS):Nat->EV
 | 3=>.v (.int .u32 ((adr s.p).toNat:Int))
 | j=>stc s j
theorem Qxb (s:SetS):∀ j,j < 5->(stw s j).pv=(stc s j).pv:=by
 intro j hj
 match j,hj with
 | 0,_=>rfl
 | 1,_=>rfl
 | 2,_=>rfl
 | 3,_=>rfl
 | 4,_=>rfl
abbrev stW (L:List SetS):Nat->Nat->EV:=fun i j=>stw (L.getD i QS) j
theorem QsA (L:List SetS):(EV.lz L.length 5 (stW L)).av=(QfG L).av:=lz_av fun i _ j hj=>Qxb (L.getD i QS) j hj
theorem adr_A:adr ntA=167903232:=by decide +kernel
theorem Qxc:EV.v (.int .u32 167903232)=stw (n10 (J9 0)) 3:=by
 show EV.v (.int .u32 167903232)=EV.v (.int .u32 ((adr ntA).toNat:Int));rw [adr_A];rfl
theorem Cf.arg1 {P:Program} {f:FuncId} {hin hout:List (Nat×EB)} {r x y:EV} (h:x.av=y.av) (k:Cf P f hin [x] hout r):Cf P f hin [y] hout r:=by
 unfold Cf Ct at k ⊢;have e:avL [x]=avL [y]:=congrArg (fun z=>[z]) h;rw [<- e];exact k
theorem QsB (he:(0:Nat) < 2):Cf Tryz.prog 43 [] [.i 0] [] (.s (Qvf 0)):=by
 have hT:=(QjJ (L:=QlB 0) (QjK 0 he) (by show 4<=30;decide)).arg1 (QsA (QlB 0)).symm;refine QJ {} Tryz.func43 Tryz.ntmps43 ?_;refine ⟨[0,1,3,0,8,27,59,0,0,384,896,1920,0,0,12288,28672,61440,126976,262143,524287,1048575],by kernel_rfl,?_⟩;refine clX (JA (i:=0) (by decide)) ?_
 repeat refine o17 ?_
 refine clX (JA (i:=1) (by decide)) ?_
 repeat refine o17 ?_
 refine clX hT ?_
 repeat (refine Ob.mk ?_ ?_;focus (first | (exact QrX (N:=4) ⟨⟨rfl,rfl,rfl,Qxc,rfl⟩,⟨rfl,rfl,rfl,rfl,rfl⟩,⟨rfl,rfl,rfl,rfl,rfl⟩,⟨rfl,rfl,rfl,rfl,rfl⟩,trivial⟩) | (exact Qxs _)))
 trivial
theorem Qvg (he:(0:Nat) < 2):Cf Tryz.prog 20 [] [] [] (.b true):=by
 have hT:=Qst (c:=WW) (s:=Qvf 0) Qer;rw [Qsz 0 he] at hT;refine QJ {} Tryz.func20 Tryz.ntmps20 ?_;refine clX (QsB he) ?_
 repeat refine o64 ?_
 refine clX hT ?_
 repeat (refine Ob.mk ?_ ?_;focus (first | (simp [cS];done) | (exact Qxs _)))
 refine ⟨[0,1,3,7,15,7,63,127,255,511,1023,2047,4095,8191,16383,32767,65535,131071,262143,524287,1048575,2097151,4194303,8388607],by kernel_rfl,?_⟩
 repeat refine o64 ?_
 refine gx (fun hc=>(JA (i:=0) (by decide))) (fun hk=>⟨hk,?_⟩)
 repeat refine o64 ?_
 trivial
theorem Qxd:Cf Tryz.prog 20 [] [] [] (.b true):=Qvg (by decide)
end
section
open Go.RowKit Go.Lib Tr
theorem QsC {c:ConfS} (h:ConfOk c) (i:Nat):(WY (c.ps.take i)).length<=48:=by
 have h1:=QbK (ps:=c.ps.take i) fun p hp=>(h.ps p (List.mem_of_mem_take hp)).1.nl;have h2:=h.pl;rw [List.length_take] at h1;omega
theorem QsD {c:ConfS} {i:Nat} (hi:i < c.ps.length):(WY (c.ps.take (i+1))).length=(WY (c.ps.take i)).length+(c.ps.getD i Qa).ns.length:=by
 rw [Qej hi,List.length_append,Jr]
theorem QeO {l:List RawS} {C:ConfS} (hl:∀ x∈l,x.inn) (hn:(l.length:Int)<=9223372036854775807) (eC:Qeh l=C):Cf Tryz.prog 3 [] [JJ l] [] (.b true):=by
 have hC:ConfOk C:=eC ▸ Qq9 l;have hT:=QkZ hC;have hTl:=Quq hC;have hpl:=hC.pl;have hcl:=fun i=>QsC hC i;have hK:=Qsy hl hn;rw [eC] at hK;refine Qr {} Tryz.func3 Tryz.ntmps3 ?_;refine clX hK ?_
 repeat refine o2 ?_
 refine clX (Qrs hC) ?_
 repeat refine o2 ?_
 refine ⟨Nat,fun i=>⟨[(2,.b false),(3,.own 1003 0),(4,Qj (trC C).flat),(5,.i 0),(6,.i ((WY (C.ps.take i)).length:Int)),(23,Ws C.ps),(24,.i (C.ps.length:Int)),(25,.i (i:Int))],[(1003,.box [.s C.k,.i C.port,Ws C.ps] 25)]⟩,fun i=>i<=C.ps.length,fun i=>C.ps.length - i,0,Qxq _,?_,fun i hx1=>?_⟩
 ·skip
  repeat refine o2 ?_
  trivial
 refine ⟨fun h1=>?_,fun h1=>?_⟩
 ·skip
  have c1:=h1
  (simp only [bsX] at c1)
  have hi:i < C.ps.length:=by omega
  have hp:=(hC.ps _ (Z0 hi)).1;have hci:=QsC hC i;have hcn:=QsD hi;have hnl:(C.ps.getD i Qa).ns.length<=8:=hp.nl
  repeat refine o3 ?_
  refine ⟨Nat,fun j=>⟨[(2,.b false),(3,.own 1003 0),(4,Qj (trC C).flat),(5,.i 0),(6,.i (((WY (C.ps.take i)).length:Int)+(j:Int))),(23,Ws C.ps),(24,.i (C.ps.length:Int)),(25,.i (i:Int)),(8,.own 1008 0),(30,Wm (C.ps.getD i Qa).ns),(31,.i ((C.ps.getD i Qa).ns.length:Int)),(32,.i (j:Int))],[(1003,.box [.s C.k,.i C.port,Ws C.ps] 25),(1008,.box [.s (C.ps.getD i Qa).k,.s (C.ps.getD i Qa).s,.s (C.ps.getD i Qa).e,.i (C.ps.getD i Qa).a,Wm (C.ps.getD i Qa).ns] 33)]⟩,fun j=>j<=(C.ps.getD i Qa).ns.length,fun j=>(C.ps.getD i Qa).ns.length - j,0,Qxq _,?_,fun j hx2=>?_⟩
  ·skip
   repeat refine o2 ?_
   trivial
  refine ⟨fun h2=>?_,fun h2=>?_⟩
  ·skip
   have c2:=h2
   (simp only [bsX] at c2)
   have hj:j < (C.ps.getD i Qa).ns.length:=by omega
   have hG:=QwR (T:=trC C) (n:=(C.ps.getD i Qa).ns.getD j []) hT.wf (by omega) (Xs hp j);rw [Qus hC hi hj] at hG
   repeat refine o3 ?_
   refine clX hG ?_
   repeat (refine Ob.mk ?_ ?_;focus (first | (exact fun _ _ _ _=>rfl) | (exact Qxs _) | (intro _;exact Qxs _)))
   refine ⟨fun h3=>?_,fun h3=>?_⟩
   ·skip
    (simp only [Int.reduceToNat,UInt8.reduceOfNat] at h3)
    have c3:=h3
    (simp only [bsX] at c3)
    exact absurd c3 (by simp)
   ·skip
    (simp only [Int.reduceToNat,UInt8.reduceOfNat] at h3)
    have c3:=h3
    (simp only [bsX] at c3)
    repeat refine o4 ?_
    refine Qt (j+1) ?_
    repeat refine o2 ?_
    trivial
  ·skip
   have c2:=h2
   (simp only [bsX] at c2)
   have hE:((WY (C.ps.take (i+1))).length:Int)=((WY (C.ps.take i)).length:Int)+(j:Int):=by omega
   repeat refine o4 ?_
   refine Qt (i+1) ?_
   repeat (refine Ob.mk ?_ ?_;focus (first | (rw [hE];done) | (exact fun _ _ _ _=>rfl) | (exact Qxs _)))
   trivial
 ·skip
  have c1:=h1
  (simp only [bsX] at c1)
  have hD:(WY (C.ps.take i)).length=(WY C.ps).length:=by rw [List.take_of_length_le (by omega)]
  have hA:(Yr (trC C).flat (trC C).flat.length).length=(WY C.ps).length:=(QqL _).trans hT.own;refine clX (Qok hT.wf (by omega)) ?_
  repeat refine o2 ?_
  refine clX Qxd ?_
  repeat refine o11 ?_
  refine gx (fun hc=>(Qf hC)) (fun hk=>⟨hk,?_⟩)
  repeat (refine Ob.mk ?_ ?_;focus (rw [hA,hD];simp;done))
  trivial
theorem Qha {l:List RawS} (hl:∀ x∈l,x.inn) (hn:(l.length:Int)<=9223372036854775807):Cf Tryz.prog 3 [] [JJ l] [] (.b true):=QeO hl hn rfl
end
namespace confOwned
open Go.ChangeShapes Go.WideShapes Go.ChangeAt Go.RowKit
open Go.ChangeMaps (open_string shut_string)
def QfN:List (String×DataW Unit):=[("math/bits.deBruijn32tab",Rows.laid_math_bits_deBruijn32tab),("math/bits.deBruijn64tab",Rows.laid_math_bits_deBruijn64tab),("internal/strconv.uint64pow10",Rows.laid_internal_strconv_uint64pow10),("unicode/utf8.acceptRanges",Rows.laid_unicode_utf8_acceptRanges),("unicode/utf8.first",Rows.laid_unicode_utf8_first)]
theorem Qvk {W:World} (h:laidMetH Tryz.prog QfN W):Amb W (QbF W):=by
 rw [MakeChecks.laidMetH_plain _ _ _ (by kernel_rfl)] at h;unfold QfN at h;exact QrP (laidMet.tail (laidMet.tail h))
theorem Qxl (os:Os) (started:os.Started) (H:Type) (enc:TypeId×Value->H) :
  ReturnsInHanded {} Tryz.checked os 3 .any (fun w args=>(Rows.confOwnedSpec.pre enc Tryz.prog Tryz.f3 Rows.confOwnedRow.domain false w args/\laidMetH Tryz.prog QfN w)/\sizedMet enc Tryz.prog Tryz.f3 (OpenSpec.ofChange Rows.confOwnedSpec) false w args) (Rows.confOwnedSpec.post enc Tryz.prog Tryz.f3 false true false false):=by
 refine returnsInHanded_of_change_and (C:=Tryz.checked) (X:=fun w _=>laidMetH Tryz.prog QfN w) (fun _ _ _ hh h=>h.of_heap hh) own started (by kernel_rfl) Tryz.func3
  (ChangeSpec.witness_shaped (enc:=enc) (C:=Tryz.checked) (os:=os) (X:=fun w _=>laidMetH Tryz.prog QfN w) false (World.laidAll Tryz.prog os QfN) #[.slice none 0 0] 8 (World.laidAll_os _ _ _)
   (World.shaped_of_ZipB (by kernel_rfl) (by kernel_rfl)) (by kernel_rfl) (by kernel_rfl) (by kernel_rfl)
   (by rw [MakeChecks.laidMetH_plain _ _ _ (by kernel_rfl)];exact laidMet_laidAll _ (by kernel_rfl) (by kernel_rfl))) ?_
 intro W base args ds gs before hval0 hW hcnd hwt hL _;have hval:∀ (j:Nat) t v,Tryz.f3.params[j]? = some t->args[j]? = some v->Value.okWide Tryz.prog W .any base t v:=hval0;have hW':=hW;obtain ⟨p,q,hA0,hV,rfl,hfz,hnd⟩:=hW;have hA:DataW.TrodAll enc Tryz.prog W 0 (fun _=>true) true Tryz.f3.params.toList args.toList ds p:=hA0;rw [Tryz.params3] at hA hval;obtain ⟨v0,vs0,d0,ds0,p0,q0,hargs,rfl,rfl,h0,r0⟩:=trodAll_cons hA;obtain ⟨rfl,rfl,rfl⟩:=trodAll_nil r0;obtain rfl:args = #[v0]:=by cases args;simp_all
 obtain ⟨rfl,rfl⟩:=trodVars_none hV;have k0:=h0;have lt0:∀ x∈p0,x.block < W.heap.size:=by obtain ⟨m,hm⟩:=k0;exact DataW.trod_lt m _ _ _ hm
 obtain ⟨l0,ok0,z0⟩:=QkP (hval 0 _ v0 rfl rfl) h0;clear hA0 hval0;refine (Qn8 (vs:=[_]) (Qha ok0.2 (by have:=ok0.1;unfold maxLen at this;omega)) (Qvk hL) (Qug z0 Qws)).mono fun e W9 ⟨he,bel⟩=>?_;subst he;exact ⟨_,rfl,_,_,_,[],_,[],hW',trodAll_mk1 (shut_bool Tryz.underlying4 _),(trodAll_cons_mk (Below.trod Quf (by kernel_rfl) (of_decide_eq_true (by kernel_rfl)) k0 bel lt0) trodAll_mk0),rfl,bel.frame _,fun h=>by cases h⟩
theorem cl10:(Rows.confOwnedRow.inPlace == Tryz.pinned.checked.prog.inPlace 3)=true:=by kernel_rfl
theorem cl11:(Rows.confOwnedRow.unfollowed == Tryz.pinned.checked.prog.unfollowed 3)=true:=by kernel_rfl
theorem cl12:(Rows.confOwnedRow.recurses == Tryz.pinned.checked.prog.recurses 3)=true:=by kernel_rfl
theorem cl13:(Rows.confOwnedRow.named == Tryz.pinned.checked.prog.varsNamed 3)=true:=by kernel_rfl
theorem cl23:(Rows.confOwnedRow.plainKeys == Tryz.pinned.checked.prog.plainKeys)=true:=by kernel_rfl
theorem Qxm:joinedFacts Tryz.pinned.checked.prog 3 Tryz.f3 Rows.confOwnedSpec Rows.confOwnedRow=true:=by
 unfold joinedFacts;exact ZH (ZH (ZH (ZH (ZH (ZH (ZH (ZH (ZH (ZH (ZH (ZH (ZH (ZH (ZH (ZH (ZH (ZH (ZH (ZH (ZH (ZH (ZH (ZH (ZH (ZH (ZH (ZH (ZH (ZH (ZH (by kernel_rfl) laid_) maps_) (by kernel_rfl)) (by kernel_rfl)) (by kernel_rfl)) (by kernel_rfl)) (by kernel_rfl)) (by kernel_rfl)) cl10) cl11) cl12) cl13) (by kernel_rfl)) (by kernel_rfl)) (by kernel_rfl)) (by kernel_rfl)) (by kernel_rfl)) (by kernel_rfl)) (by kernel_rfl)) (by kernel_rfl)) (by kernel_rfl)) cl23) (by kernel_rfl)) Qxk) Qxi) (QsI (by kernel_rfl))) (Qvj (by kernel_rfl))) (by kernel_rfl)) (by kernel_rfl)) (by kernel_rfl)) (by kernel_rfl)
theorem over:Rows.confOwnedRow.holds Tryz.pinned (OpenSpec.ofChange Rows.confOwnedSpec) :=
 OpenClaim.holds_of_wide 3 Tryz.f3 rfl rfl rfl rfl rfl rfl rfl ⟨rfl,rfl,rfl,rfl,rfl⟩ rfl rfl rfl rfl rfl (by kernel_rfl) Tryz.func3 Qxm
  (of_decide_eq_true (by kernel_rfl)) (by unfold Func.isWrapper;first | (rw [if_pos (by decide +kernel)];kernel_rfl) | (rw [if_neg (by decide +kernel)];exact ⟨rfl,rfl⟩))
  (fun os started H enc _=>Qxl os started H enc)
theorem pw1:Rows.confOwnedRow.wfByText (OpenSpec.ofChange Rows.confOwnedSpec)=true:=by kernel_rfl
theorem pw2:Tryz.pinned.checked.prog.mainIs=some ((true,"304393dc0cffdc476f139ebc5f59f91e4654f2b28d5098997c89b056d7c62b16").1,(true,"304393dc0cffdc476f139ebc5f59f91e4654f2b28d5098997c89b056d7c62b16").2.toList):=by kernel_rfl
theorem pw3:false=Tryz.pinned.checked.prog.looks []:=by kernel_rfl
theorem pw4:([22].all fun u=>!Tryz.prog.wantsStandIn u)=true:=by kernel_rfl
theorem pw5:false=Rows.confOwnedRow.goesBy Tryz.pinned.checked.prog:=by kernel_rfl
theorem pw6:Tryz.prog.funcNamed "cattlecreep/cattlecreepkeep.ConfOwned" = some 3:=by kernel_rfl
theorem proved:Rows.ConfOwnedCardSaid :=
 Claim7.holds_tied_plain_at .later [] [.data,.data,.data,.data,.pinned] true (true,"304393dc0cffdc476f139ebc5f59f91e4654f2b28d5098997c89b056d7c62b16") false
  over (fun _ h=>by cases h) pw1 (fun _ h=>by cases h) confOwned_row_tie rfl ⟨rfl,rfl⟩ pw2 rfl
  (fun f fn hf hfn=>by
   obtain rfl:f=3:=Option.some.inj (pw6.symm.trans hf) |>.symm;obtain rfl:fn=Tryz.f3:=(Option.some.inj (Tryz.func3.symm.trans hfn)).symm
   exact ⟨pw3,fun j t ht=>by
    rw [Tryz.params3] at ht;have hm:t∈[22]:=by simpa using Array.mem_of_getElem? ht
    exact (show Tryz.prog.wantsStandIn t=false by simpa using List.all_eq_true.1 pw4 t hm)⟩)
  pw5
#print axioms proved
end confOwned
end Go.Proofs.YtcebndkiagbddaaGreatDoor
