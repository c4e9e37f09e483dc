/- A part of the proof: contracts of functions and what they stand on. Written shorter and merged by a program (pack.py). -/
import Derived.Lib.BitFns
import Derived.Lib.ItoaNum
import Derived.Test.YtcebndkiagbddaaGreatDoorK40
set_option linter.unusedVariables false
set_option linter.unusedSimpArgs false
set_option maxRecDepth 100000
set_option maxHeartbeats 4000000
open List renaming append_nil → Qy3, getD_eq_getElem?_getD → Qy4, length → Qy6, getElem?_eq_getElem → Qy7, length_append → Qy8, mem_cons_self → Qy9, getElem?_append_right → Qzc, mem_cons → Qzd, getElem?_append_left → Qze, pairwise_cons → Qzi
open Nat renaming zero_le → Qy5, blt → Qza, le_trans → Qzf, not_lt_zero → Qzg, blt_eq → Qzh
open Bool renaming and_eq_true → Qzb
namespace Go.Proofs.YtcebndkiagbddaaGreatDoor
section
end
section
end
section
open Go.RowKit
end
section
open Go.RowKit
end
section
open Go.RowKit
end
section
open Go.RowKit Go.Lib
theorem Cf.resAv {P:Program} {f:FuncId} {hin hout:List (Nat×EB)} {ags:List EV} {r r':EV} (h:r.av=r'.av) (k:Cf P f hin ags hout r):Cf P f hin ags hout r':=by
 unfold Cf Ct at k ⊢;rw [← h];exact k
abbrev stQ (L:List SetS):Nat→Nat→EV:=fun i j=>stq (L.getD i Qm) j
theorem Qc7 {s:SetS} (h:s.k≠10→s.p=[]):∀ j,j < 5→(stq s j).pv=(stc s j).pv:=by
 intro j hj
 match j,hj with
 | 0,_=>rfl
 | 1,_=>rfl
 | 2,_=>rfl
 | 4,_=>rfl
 | 3,_ =>
  show (if s.k=10 then EV.u32 (adr s.p) else .v (.int .u32 0)).pv=(EV.u32 (adr s.p)).pv;by_cases k:s.k=10
  ·rw [if_pos k]
  ·rw [if_neg k,h k];rfl
theorem QaY {L:List SetS} (h:∀ s∈L,s.k≠10→s.p=[]):(EV.lz L.length 5 (stQ L)).av=(Wz L).av :=
 QbH fun i hi=>Qc7 (by
  show (L.getD i Qm).k≠10→(L.getD i Qm).p=[];rw [Qy4,Qy7 hi]
  exact h _ (List.getElem_mem hi))
theorem QyW {s:SetS} {X:List EV} (hX:X=[stq s 0,stq s 1,stq s 2,stq s 3,stq s 4]):∀ a,a < 1 → ∀ j,j < 5→X.getD (a * 5+j) .any=stQ [s] a j:=by
 subst hX;intro a ha j hj;obtain rfl:a=0:=by omega
 have:j=0∨j=1∨j=2∨j=3∨j=4:=by omega
 rcases this with rfl | rfl | rfl | rfl | rfl <;> rfl
theorem QeU {n:Nat} {L M:List SetS} {s:SetS} {f:Nat→Nat→EV} {X:List EV} (hf:∀ a,a < n → ∀ j,j < 5→f a j=stQ L a j) (hX:X=[stq s 0,stq s 1,stq s 2,stq s 3,stq s 4]) (hn:L.length=n) (hM:M=L++[s]) :
  ∀ a,a < n+1 → ∀ j,j < 5→(bif Qza a n then f a j else X.getD ((a - n) * 5+j) .any)=stQ M a j:=by
 subst hX hM hn;intro a ha j hj;by_cases hq:a < L.length
 ·have:Qza a L.length=true:=by simpa [Qzh] using hq
  rw [this];refine (hf a hq j hj).trans ?_;show stq (L.getD a Qm) j=stq ((L++[s]).getD a Qm) j;rw [Qy4,Qy4,Qze hq]
 ·obtain rfl:a=L.length:=by omega
  have:Qza L.length L.length=false:=by cases hb:Qza L.length L.length with | false=>rfl | true=>(rw [Qzh] at hb;omega)
  rw [this,Nat.sub_self,Nat.zero_mul,Nat.zero_add];show _=stq ((L++[s]).getD L.length Qm) j;rw [Qy4 (l:=L++[s]),Qzc (Nat.le_refl _),Nat.sub_self];have:j=0∨j=1∨j=2∨j=3∨j=4:=by omega
  rcases this with rfl | rfl | rfl | rfl | rfl <;> rfl
theorem QnS {n:Nat} {L M:List SetS} {s:SetS} {f:Nat→Nat→EV} {X:List EV} (hM:M=L++[s]) (hf:∀ a,a < n → ∀ j,j < 5→f a j=stQ L a j) (hX:X=[stq s 0,stq s 1,stq s 2,stq s 3,stq s 4]) (hn:L.length=n) :
  ∀ a,a < n+1 → ∀ j,j < 5→(bif Qza a n then f a j else X.getD ((a - n) * 5+j) .any)=stQ M a j:=QeU hf hX hn hM
theorem sq_0 {f:Nat→Nat→EV} {L:List SetS}:∀ a,a < 0 → ∀ j,j < 5→f a j=stQ L a j:=fun _ h=>absurd h (Qzg _)
theorem sq_c {s:SetS} {O N:List SetS} {n:Nat} {f:Nat→Nat→EV} {X:List EV} (hN:N=s::O) (hf:∀ a,a < n → ∀ j,j < 5→f a j=stQ O a j) (hX:X=[stq s 0,stq s 1,stq s 2,stq s 3,stq s 4]) :
  ∀ a,a < 1+n → ∀ j,j < 5→(bif Qza a 1 then X.getD (a * 5+j) .any else f (a - 1) j)=stQ N a j:=by
 subst hN;intro a ha j hj
 cases a with
 | zero=>exact QyW hX 0 (by decide) j hj
 | succ a=>exact hf a (by omega) j hj
theorem Quq {L M N:List SetS} {n:Nat} (g:SetS→Nat→EV) (hN:N=L++M) (hn:L.length=n):∀ a,a < n+M.length → ∀ j,j < 5→(bif Qza a n then g (L.getD a Qm) j else g (M.getD (a - n) Qm) j)=g (N.getD a Qm) j:=by
 subst hN hn;intro a ha j hj;by_cases hq:a < L.length
 ·have:Qza a L.length=true:=by simpa [Qzh] using hq
  rw [this];show g (L.getD a Qm) j=g ((L++M).getD a Qm) j;rw [Qy4,Qy4,Qze hq]
 ·have:Qza a L.length=false:=by cases hb:Qza a L.length with | false=>rfl | true=>(rw [Qzh] at hb;omega)
  rw [this];show g (M.getD (a - L.length) Qm) j=g ((L++M).getD a Qm) j;rw [Qy4,Qy4 (l:=L++M),Qzc (by omega)]
end
section
open Go.Lib
theorem Qc9:∀ {a b:List (List Bool)},Yi a→Yi b→(∀ n,n∈a↔n∈b)→a=b
 | [],[],_,_,_=>rfl
 | [],q::b,_,_,h=>absurd ((h q).2 (Qy9 ..)) (by simp)
 | p::a,[],_,_,h=>absurd ((h p).1 (Qy9 ..)) (by simp)
 | p::a,q::b,h1,h2,h=>by
  obtain ⟨a1,a2⟩:=Qzi.1 h1;obtain ⟨b1,b2⟩:=Qzi.1 h2
  have no:∀ x y:List Bool,ltB x y=true→ltB y x=true→False:=fun x y u v=>by
   have:=Xd u v;rw [Qjc] at this;cases this
  have e:p=q:=by
   rcases Qzd.1 ((h p).1 (Qy9 ..)) with k | k
   ·exact k
   ·rcases Qzd.1 ((h q).2 (Qy9 ..)) with k2 | k2
    ·exact k2.symm
    ·exact absurd (no q p (b1 p k) (a1 q k2)) id
  subst e;have hnp:∀ l:List (List Bool),(∀ x∈l,ltB p x=true)→p ∉ l:=fun l hl hm=>Qjd (hl p hm) rfl;rw [Qc9 a2 b2 fun n=>?_];have:=h n;rw [Qzd,Qzd] at this;constructor
  ·intro k;rcases this.1 (.inr k) with e | e
   ·subst e;exact absurd k (hnp _ a1)
   ·exact e
  ·intro k;rcases this.2 (.inr k) with e | e
   ·subst e;exact absurd k (hnp _ b1)
   ·exact e
theorem Sem.self {c:ConfS} (h:ConfOk c):Sem c c.k c.port (QM c.ps):=⟨h,rfl,rfl,fun _=>rfl⟩
theorem QeT {c:ConfS} {k:List UInt8} {port:Int} {G:List UInt8→Option PeerS} {t a:List UInt8} {p:PeerS} (h:Sem c k port G) (hn:t≠k) (hp:G t=some p):Qi c a ⟨4,t,0,[]⟩=(c,t,0):=by
 have e:¬ Qv c.ps t = -1:=fun e=>by rw [← Yn,h.at_,hp] at e;cases e
 show (if t=c.k then noS 14 else if ¬ Qv c.ps t = -1 then (c,t,0) else _)=_;rw [if_neg (by rw [h.k];exact hn),if_pos e]
theorem go_9 {c:ConfS} {k:List UInt8} {port:Int} {G:List UInt8→Option PeerS} {a:List UInt8} {p:PeerS} (h:Sem c k port G) (ha:a≠[]) (hp:G a=some p) :
  ∃ d,Qi c a ⟨9,[],0,[]⟩=(d,a,0)∧Sem d k port (Vh G a ⟨p.k,p.s,p.e,p.a,[]⟩):=by
 obtain ⟨i,hi,e,ek,_,eo⟩:=VW (s:=⟨9,[],0,[]⟩) h ha hp (by decide:(5:Int)≤9);obtain ⟨po,_,_⟩:=QgB h hp;refine ⟨_,eo,?_⟩;have:=Qc1 (q:=⟨p.k,p.s,p.e,p.a,[]⟩) h hi e ⟨po.k,po.s,po.e,po.a,Qy5 _,fun n hn=>(by cases hn),List.Pairwise.nil⟩ rfl (List.nil_sublist _);rw [ek] at this;rw [e,ek];exact this
theorem go_5 {c:ConfS} {k:List UInt8} {port:Int} {G:List UInt8→Option PeerS} {a:List UInt8} {p:PeerS} (h:Sem c k port G) (ha:a≠[]) (hp:G a=some p) :
  ∃ d,Qi c a ⟨5,[],0,[]⟩=(d,[],0)∧Sem d k port (fun x=>if x=a then none else G x):=by
 obtain ⟨i,hi,e,ek,_,eo⟩:=VW (s:=⟨5,[],0,[]⟩) h ha hp (by decide:(5:Int)≤5);refine ⟨_,eo,Qpd h.ok a,h.k,h.port,fun x=>?_⟩;show QM (Q8 a c.ps) x=_;rw [QhS,h.at_]
end
section
open Go.RowKit Go.Lib
theorem WN {p:PeerS} {k:Nat} (hk:k < p.ns.length):shP p (k+1)=shP p k++[n10 (p.ns.getD k [])]:=by
 unfold shP;rw [Qbl hk,List.map_append,List.append_assoc];rfl
theorem Qjz (p:PeerS):(hdP p).length≤4:=by
 unfold hdP s6 s7 s8;split <;> split <;> split <;> simp
theorem WS {p:PeerS} (k:Nat):(shP p k).length≤4+k:=by
 unfold shP;rw [Qy8,List.length_map,List.length_take];have:=Qjz p;omega
theorem Xm {p:PeerS} (hl:p.ns.length≤1000):Cf Tryz.prog 80 [] [ZS p] [] (.lz (WQ p).length 5 (stQ (WQ p))):=by
 refine Qs {} Tryz.func80 Tryz.ntmps80 ?_;refine ⟨fun h1=>?_,fun h1=>?_⟩
 ·skip
  have c1:=h1
  (simp only [bsX] at c1)
  have e6:=QlW c1
  repeat refine o18 ?_
  refine ⟨fun h2=>?_,fun h2=>?_⟩
  ·skip
   have c2:=h2
   (simp only [bsX] at c2)
   have e7:=Qeh c2
   repeat refine o18 ?_
   refine ⟨fun h3=>?_,fun h3=>?_⟩
   ·skip
    have c3:=h3
    (simp only [bsX] at c3)
    have e8:=QaN c3
    repeat refine o18 ?_
    have eh:shP p 0=⟨4,p.k,0,[]⟩::(s6 p++s7 p++s8 p):=Qy3 _;rw [e6,e7,e8] at eh;have ehl:=congrArg Qy6 eh;refine ⟨Nat,fun k=>⟨[(3,.osl 61 (shP p k).length),(38,Qg p.ns),(39,.i (p.ns.length:Int)),(40,.i (k:Int))],[(61,.rz (shP p k).length 5 (stQ (shP p k)) 48 0)]⟩,fun k=>k≤p.ns.length,fun k=>p.ns.length - k,0,Qy5 _,?_,fun k hx1=>?_⟩
    ·skip
     repeat refine o111 ?_
     trivial
    refine ⟨fun h4=>?_,fun h4=>?_⟩
    ·skip
     have c4:=h4
     (simp only [bsX] at c4)
     have hk:k < p.ns.length:=by omega
     have hM:=WN hk;have hl1:(shP p k).length+1=(shP p (k+1)).length:=by rw [hM];simp
     have hsl:=WS (p:=p) k
     repeat refine o13 ?_
     refine Ql (k+1) ?_
     repeat refine o21 ?_
     trivial
    ·skip
     have c4:=h4
     (simp only [bsX] at c4)
     obtain rfl:k=p.ns.length:=by omega
     repeat refine o1 ?_
     trivial
   ·skip
    have c3:=h3
    (simp only [bsX] at c3)
    have e8:=J9 c3;have eh:shP p 0=⟨4,p.k,0,[]⟩::(s6 p++s7 p++s8 p):=Qy3 _;rw [e6,e7,e8] at eh;have ehl:=congrArg Qy6 eh;refine ⟨Nat,fun k=>⟨[(3,.osl 61 (shP p k).length),(38,Qg p.ns),(39,.i (p.ns.length:Int)),(40,.i (k:Int))],[(61,.rz (shP p k).length 5 (stQ (shP p k)) 48 0)]⟩,fun k=>k≤p.ns.length,fun k=>p.ns.length - k,0,Qy5 _,?_,fun k hx1=>?_⟩
    ·skip
     repeat refine o53 ?_
     trivial
    refine ⟨fun h5=>?_,fun h5=>?_⟩
    ·skip
     have c5:=h5
     (simp only [bsX] at c5)
     have hk:k < p.ns.length:=by omega
     have hM:=WN hk;have hl1:(shP p k).length+1=(shP p (k+1)).length:=by rw [hM];simp
     have hsl:=WS (p:=p) k
     repeat refine o13 ?_
     refine Ql (k+1) ?_
     repeat refine o21 ?_
     trivial
    ·skip
     have c5:=h5
     (simp only [bsX] at c5)
     obtain rfl:k=p.ns.length:=by omega
     repeat refine o1 ?_
     trivial
  ·skip
   have c2:=h2
   (simp only [bsX] at c2)
   have e7:=QgC (by simpa using h2);refine ⟨fun h6=>?_,fun h6=>?_⟩
   ·skip
    have c6:=h6
    (simp only [bsX] at c6)
    have e8:=QaN c6
    repeat refine o18 ?_
    have eh:shP p 0=⟨4,p.k,0,[]⟩::(s6 p++s7 p++s8 p):=Qy3 _;rw [e6,e7,e8] at eh;have ehl:=congrArg Qy6 eh;refine ⟨Nat,fun k=>⟨[(3,.osl 61 (shP p k).length),(38,Qg p.ns),(39,.i (p.ns.length:Int)),(40,.i (k:Int))],[(61,.rz (shP p k).length 5 (stQ (shP p k)) 48 0)]⟩,fun k=>k≤p.ns.length,fun k=>p.ns.length - k,0,Qy5 _,?_,fun k hx1=>?_⟩
    ·skip
     repeat refine o53 ?_
     trivial
    refine ⟨fun h7=>?_,fun h7=>?_⟩
    ·skip
     have c7:=h7
     (simp only [bsX] at c7)
     have hk:k < p.ns.length:=by omega
     have hM:=WN hk;have hl1:(shP p k).length+1=(shP p (k+1)).length:=by rw [hM];simp
     have hsl:=WS (p:=p) k
     repeat refine o13 ?_
     refine Ql (k+1) ?_
     repeat refine o21 ?_
     trivial
    ·skip
     have c7:=h7
     (simp only [bsX] at c7)
     obtain rfl:k=p.ns.length:=by omega
     repeat refine o1 ?_
     trivial
   ·skip
    have c6:=h6
    (simp only [bsX] at c6)
    have e8:=J9 c6;have eh:shP p 0=⟨4,p.k,0,[]⟩::(s6 p++s7 p++s8 p):=Qy3 _;rw [e6,e7,e8] at eh;have ehl:=congrArg Qy6 eh;refine ⟨Nat,fun k=>⟨[(3,.osl 61 (shP p k).length),(38,Qg p.ns),(39,.i (p.ns.length:Int)),(40,.i (k:Int))],[(61,.rz (shP p k).length 5 (stQ (shP p k)) 48 0)]⟩,fun k=>k≤p.ns.length,fun k=>p.ns.length - k,0,Qy5 _,?_,fun k hx1=>?_⟩
    ·skip
     repeat refine o54 ?_
     trivial
    refine ⟨fun h8=>?_,fun h8=>?_⟩
    ·skip
     have c8:=h8
     (simp only [bsX] at c8)
     have hk:k < p.ns.length:=by omega
     have hM:=WN hk;have hl1:(shP p k).length+1=(shP p (k+1)).length:=by rw [hM];simp
     have hsl:=WS (p:=p) k
     repeat refine o13 ?_
     refine Ql (k+1) ?_
     repeat refine o21 ?_
     trivial
    ·skip
     have c8:=h8
     (simp only [bsX] at c8)
     obtain rfl:k=p.ns.length:=by omega
     repeat refine o1 ?_
     trivial
 ·skip
  have c1:=h1
  (simp only [bsX] at c1)
  have e6:=QhU (by simpa using h1);refine ⟨fun h9=>?_,fun h9=>?_⟩
  ·skip
   have c9:=h9
   (simp only [bsX] at c9)
   have e7:=Qeh c9
   repeat refine o18 ?_
   refine ⟨fun h10=>?_,fun h10=>?_⟩
   ·skip
    have c10:=h10
    (simp only [bsX] at c10)
    have e8:=QaN c10
    repeat refine o18 ?_
    have eh:shP p 0=⟨4,p.k,0,[]⟩::(s6 p++s7 p++s8 p):=Qy3 _;rw [e6,e7,e8] at eh;have ehl:=congrArg Qy6 eh;refine ⟨Nat,fun k=>⟨[(3,.osl 61 (shP p k).length),(38,Qg p.ns),(39,.i (p.ns.length:Int)),(40,.i (k:Int))],[(61,.rz (shP p k).length 5 (stQ (shP p k)) 48 0)]⟩,fun k=>k≤p.ns.length,fun k=>p.ns.length - k,0,Qy5 _,?_,fun k hx1=>?_⟩
    ·skip
     repeat refine o53 ?_
     trivial
    refine ⟨fun h11=>?_,fun h11=>?_⟩
    ·skip
     have c11:=h11
     (simp only [bsX] at c11)
     have hk:k < p.ns.length:=by omega
     have hM:=WN hk;have hl1:(shP p k).length+1=(shP p (k+1)).length:=by rw [hM];simp
     have hsl:=WS (p:=p) k
     repeat refine o13 ?_
     refine Ql (k+1) ?_
     repeat refine o21 ?_
     trivial
    ·skip
     have c11:=h11
     (simp only [bsX] at c11)
     obtain rfl:k=p.ns.length:=by omega
     repeat refine o1 ?_
     trivial
   ·skip
    have c10:=h10
    (simp only [bsX] at c10)
    have e8:=J9 c10;have eh:shP p 0=⟨4,p.k,0,[]⟩::(s6 p++s7 p++s8 p):=Qy3 _;rw [e6,e7,e8] at eh;have ehl:=congrArg Qy6 eh;refine ⟨Nat,fun k=>⟨[(3,.osl 61 (shP p k).length),(38,Qg p.ns),(39,.i (p.ns.length:Int)),(40,.i (k:Int))],[(61,.rz (shP p k).length 5 (stQ (shP p k)) 48 0)]⟩,fun k=>k≤p.ns.length,fun k=>p.ns.length - k,0,Qy5 _,?_,fun k hx1=>?_⟩
    ·skip
     repeat refine o54 ?_
     trivial
    refine ⟨fun h12=>?_,fun h12=>?_⟩
    ·skip
     have c12:=h12
     (simp only [bsX] at c12)
     have hk:k < p.ns.length:=by omega
     have hM:=WN hk;have hl1:(shP p k).length+1=(shP p (k+1)).length:=by rw [hM];simp
     have hsl:=WS (p:=p) k
     repeat refine o13 ?_
     refine Ql (k+1) ?_
     repeat refine o21 ?_
     trivial
    ·skip
     have c12:=h12
     (simp only [bsX] at c12)
     obtain rfl:k=p.ns.length:=by omega
     repeat refine o1 ?_
     trivial
  ·skip
   have c9:=h9
   (simp only [bsX] at c9)
   have e7:=QgC (by simpa using h9);refine ⟨fun h13=>?_,fun h13=>?_⟩
   ·skip
    have c13:=h13
    (simp only [bsX] at c13)
    have e8:=QaN c13
    repeat refine o18 ?_
    have eh:shP p 0=⟨4,p.k,0,[]⟩::(s6 p++s7 p++s8 p):=Qy3 _;rw [e6,e7,e8] at eh;have ehl:=congrArg Qy6 eh;refine ⟨Nat,fun k=>⟨[(3,.osl 61 (shP p k).length),(38,Qg p.ns),(39,.i (p.ns.length:Int)),(40,.i (k:Int))],[(61,.rz (shP p k).length 5 (stQ (shP p k)) 48 0)]⟩,fun k=>k≤p.ns.length,fun k=>p.ns.length - k,0,Qy5 _,?_,fun k hx1=>?_⟩
    ·skip
     repeat refine o54 ?_
     trivial
    refine ⟨fun h14=>?_,fun h14=>?_⟩
    ·skip
     have c14:=h14
     (simp only [bsX] at c14)
     have hk:k < p.ns.length:=by omega
     have hM:=WN hk;have hl1:(shP p k).length+1=(shP p (k+1)).length:=by rw [hM];simp
     have hsl:=WS (p:=p) k
     repeat refine o13 ?_
     refine Ql (k+1) ?_
     repeat refine o21 ?_
     trivial
    ·skip
     have c14:=h14
     (simp only [bsX] at c14)
     obtain rfl:k=p.ns.length:=by omega
     repeat refine o1 ?_
     trivial
   ·skip
    have c13:=h13
    (simp only [bsX] at c13)
    have e8:=J9 c13;have eh:shP p 0=⟨4,p.k,0,[]⟩::(s6 p++s7 p++s8 p):=Qy3 _;rw [e6,e7,e8] at eh;have ehl:=congrArg Qy6 eh;refine ⟨Nat,fun k=>⟨[(3,.osl 61 (shP p k).length),(38,Qg p.ns),(39,.i (p.ns.length:Int)),(40,.i (k:Int))],[(61,.rz (shP p k).length 5 (stQ (shP p k)) 48 0)]⟩,fun k=>k≤p.ns.length,fun k=>p.ns.length - k,0,Qy5 _,?_,fun k hx1=>?_⟩
    ·skip
     repeat refine o112 ?_
     trivial
    refine ⟨fun h15=>?_,fun h15=>?_⟩
    ·skip
     have c15:=h15
     (simp only [bsX] at c15)
     have hk:k < p.ns.length:=by omega
     have hM:=WN hk;have hl1:(shP p k).length+1=(shP p (k+1)).length:=by rw [hM];simp
     have hsl:=WS (p:=p) k
     repeat refine o13 ?_
     refine Ql (k+1) ?_
     repeat refine o21 ?_
     trivial
    ·skip
     have c15:=h15
     (simp only [bsX] at c15)
     obtain rfl:k=p.ns.length:=by omega
     repeat refine o1 ?_
     trivial
end
section
open Go.RowKit Go.Lib
def QB (p q:PeerS):Bool:=(((decide (p.k=q.k) && decide (p.s=q.s)) && decide (p.e=q.e)) && decide (p.a=q.a)) && decide (p.ns=q.ns)
theorem QH {p q:PeerS}:QB p q=true↔p=q:=by
 unfold QB;simp only [Qzb,decide_eq_true_eq];constructor
 ·rintro ⟨⟨⟨⟨h1,h2⟩,h3⟩,h4⟩,h5⟩;cases p;cases q;simp only at h1 h2 h3 h4 h5;subst h1 h2 h3 h4 h5;rfl
 ·rintro rfl;exact ⟨⟨⟨⟨rfl,rfl⟩,rfl⟩,rfl⟩,rfl⟩
def Qr:List PeerS→List PeerS→Bool
 | [],[]=>true
 | p::ps,q::qs=>QB p q && Qr ps qs
 | _,_=>false
theorem Qj:∀ {ps qs:List PeerS},Qr ps qs=true↔ps=qs
 | [],[]=>⟨fun _=>rfl,fun _=>rfl⟩
 | [],q::qs=>⟨fun h=>(by cases h),fun h=>(by cases h)⟩
 | p::ps,[]=>⟨fun h=>(by cases h),fun h=>(by cases h)⟩
 | p::ps,q::qs=>by
  unfold Qr;rw [Qzb,QH,Qj,List.cons.injEq]
def WR (a b:ConfS):Bool:=(decide (a.k=b.k) && decide (a.port=b.port)) && Qr a.ps b.ps
theorem W6 {a b:ConfS}:WR a b=true↔a=b:=by
 unfold WR;rw [Qzb,Qzb,decide_eq_true_eq,decide_eq_true_eq,Qj];constructor
 ·rintro ⟨⟨h1,h2⟩,h3⟩;cases a;cases b;simp only at h1 h2 h3;subst h1 h2 h3;rfl
 ·rintro rfl;exact ⟨⟨rfl,rfl⟩,rfl⟩
theorem QO {A:Type} {d:A} {l m:List A} (hl:l.length=m.length) (h:∀ i,i < l.length→l.getD i d=m.getD i d):l=m:=by
 refine List.ext_getElem hl fun i h1 h2=>?_;have:=h i h1;rw [Qy4,Qy4,Qy7 h1,Qy7 h2] at this;exact this
theorem W7 {ps qs:List PeerS} (h:¬ ps.length=qs.length):Qr ps qs=false:=by
 cases e:Qr ps qs with
 | false=>rfl
 | true=>exact absurd (congrArg Qy6 (Qj.1 e)) h
theorem ZH {ps qs:List PeerS} {i:Nat} (h:QB (ps.getD i Qa) (qs.getD i Qa)=false):Qr ps qs=false:=by
 cases e:Qr ps qs with
 | false=>rfl
 | true =>
  rw [Qj.1 e,QH.2 rfl] at h;cases h
theorem W8 {ps qs:List PeerS} (hl:ps.length=qs.length) (h:∀ j,j < ps.length→QB (ps.getD j Qa) (qs.getD j Qa)=true):Qr ps qs=true :=
 Qj.2 (QO hl fun i hi=>QH.1 (h i hi))
theorem Ya {ns ms:List (List Bool)} (hl:ns.length≤1000) (hn:∀ x∈ns,x.length≤32) (hm:ms.length≤1000):Cf Tryz.prog 68 [] [Qg ns,Qg ms] [] (.b (decide (ns=ms))):=by
 refine QV {} Tryz.func68 Tryz.ntmps68 ?_;refine ⟨fun h1=>?_,fun h1=>?_⟩
 ·skip
  have c1:=h1
  (simp only [bsX] at c1)
  have hR:decide (ns=ms)=false:=decide_eq_false fun e=>by (rw [e] at c1;omega)
  repeat refine o8 ?_
  trivial
 ·skip
  have c1:=h1
  (simp only [bsX] at c1)
  have hle:ns.length=ms.length:=by omega
  refine ⟨Nat,fun i=>⟨[(0,Qg ns),(1,Qg ms),(12,.i (ns.length:Int)),(13,.i (i:Int))],[]⟩,fun i=>i≤ns.length ∧ ∀ j,j < i→ns.getD j []=ms.getD j [],fun i=>ns.length - i,0,⟨Qy5 _,fun j hj=>absurd hj (Qzg _)⟩,?_,fun i hx1=>?_⟩
  ·skip
   repeat refine o7 ?_
   trivial
  refine ⟨fun h2=>?_,fun h2=>?_⟩
  ·skip
   have c2:=h2
   (simp only [bsX] at c2)
   have hi:i < ns.length:=by omega
   refine ⟨[0,0,3,7,0,0,48,112,255],by kernel_rfl,?_⟩
   repeat refine o4 ?_
   refine ⟨fun h3=>?_,fun h3=>?_⟩
   ·skip
    have c3:=h3
    (simp only [bsX] at c3)
    have hR:decide (ns=ms)=false:=decide_eq_false fun e=>by (subst e;simp at h3)
    repeat refine o8 ?_
    trivial
   ·skip
    have c3:=h3
    (simp only [bsX] at c3)
    have hE:ns.getD i []=ms.getD i []:=of_decide_eq_true ((YS (ZQ hn i)).symm.trans (by simpa using h3));have hnx:i+1≤ns.length ∧ ∀ j,j < i+1→ns.getD j []=ms.getD j []:=⟨hi,fun j hj=>(Nat.lt_or_ge j i).elim (hx1.2 j) fun q=>by rw [show j=i from by omega];exact hE⟩
    repeat refine o3 ?_
    refine Ql (i+1) ?_
    repeat refine o7 ?_
    trivial
  ·skip
   have c2:=h2
   (simp only [bsX] at c2)
   have hR:decide (ns=ms)=true:=decide_eq_true (QO hle fun j hj=>hx1.2 j (by omega))
   repeat refine o8 ?_
   trivial
theorem Wc {p q:PeerS} (hp:PeerOk p) (hq:PeerOk q):Cf Tryz.prog 68 [] [Qg p.ns,Qg q.ns] [] (.b (decide (p.ns=q.ns))):=Ya (Qzf hp.nl (by decide)) hp.nb (Qzf hq.nl (by decide))
theorem Za {p q:PeerS} (hp:PeerOk p) (hq:PeerOk q):Cf Tryz.prog 67 [] [ZS p,ZS q] [] (.b (QB p q)):=by
 refine Qs {} Tryz.func67 Tryz.ntmps67 ?_
 repeat refine o19 ?_
 refine gx (fun hc=>(Wc hp hq)) (fun hk=>⟨hk,?_⟩)
 repeat refine o24 ?_
 trivial
theorem Wj {ps qs:List PeerS} (hl:ps.length≤1000) (hp:∀ p∈ps,PeerOk p) (hq:∀ p∈qs,PeerOk p):Cf Tryz.prog 66 [] [Qo ps,Qo qs,.v (.func (.func 67) #[] #[])] [] (.b (Qr ps qs)):=by
 refine Qs {} Tryz.func66 Tryz.ntmps66 ?_;refine ⟨fun h1=>?_,fun h1=>?_⟩
 ·skip
  have c1:=h1
  (simp only [bsX] at c1)
  have hR:=W7 (ps:=ps) (qs:=qs) (by omega)
  repeat refine o8 ?_
  trivial
 ·skip
  have c1:=h1
  (simp only [bsX] at c1)
  have hle:ps.length=qs.length:=by omega
  refine ⟨Nat,fun i=>⟨[(1,Qo qs),(2,.v (.func (.func 67) #[] #[])),(15,Qo ps),(16,.i (ps.length:Int)),(17,.i (i:Int))],[]⟩,fun i=>i≤ps.length ∧ ∀ j,j < i→QB (ps.getD j Qa) (qs.getD j Qa)=true,fun i=>ps.length - i,0,⟨Qy5 _,fun j hj=>absurd hj (Qzg _)⟩,?_,fun i hx1=>?_⟩
  ·skip
   repeat refine o7 ?_
   trivial
  refine ⟨fun h2=>?_,fun h2=>?_⟩
  ·skip
   have c2:=h2
   (simp only [bsX] at c2)
   have hi:i < ps.length:=by omega
   repeat refine o4 ?_
   refine clX (Za (p:=ps.getD i Qa) (q:=qs.getD i Qa) (hp _ (QY (c:=⟨[],0,ps⟩) hi)) (hq _ (QY (c:=⟨[],0,qs⟩) (show i < qs.length by omega)))) ?_
   repeat refine o7 ?_
   refine ⟨fun h3=>?_,fun h3=>?_⟩
   ·skip
    have c3:=h3
    (simp only [bsX] at c3)
    have hR:=ZH (ps:=ps) (qs:=qs) (i:=i) (by simpa using h3)
    repeat refine o8 ?_
    trivial
   ·skip
    have c3:=h3
    (simp only [bsX] at c3)
    have hE:QB (ps.getD i Qa) (qs.getD i Qa)=true:=by simpa using h3
    have hnx:i+1≤ps.length ∧ ∀ j,j < i+1→QB (ps.getD j Qa) (qs.getD j Qa)=true:=⟨hi,fun j hj=>(Nat.lt_or_ge j i).elim (hx1.2 j) fun q=>by rw [show j=i from by omega];exact hE⟩
    repeat refine o3 ?_
    refine Ql (i+1) ?_
    repeat refine o7 ?_
    trivial
  ·skip
   have c2:=h2
   (simp only [bsX] at c2)
   have hR:=W8 hle fun j hj=>hx1.2 j (by omega)
   repeat refine o8 ?_
   trivial
theorem WM {a b:ConfS} (ha:ConfOk a) (hb:ConfOk b):Cf Tryz.prog 24 [] [Qp a,Qp b] [] (.b (WR a b)):=by
 refine Qs {} Tryz.func24 Tryz.ntmps24 ?_
 repeat refine o19 ?_
 refine gx (fun hc=>(Wj (ps:=a.ps) (qs:=b.ps) (Qzf ha.pl (by decide)) (fun p hp=>(ha.ps p hp).1) (fun p hp=>(hb.ps p hp).1))) (fun hk=>⟨hk,?_⟩)
 repeat refine o24 ?_
 trivial
end
section
open Go.RowKit Go.Lib
theorem Qa2 {c:ConfS} {k:List UInt8} (h:ConfOk c):Cf Tryz.prog 82 [] [Qp c,.s k] [] (.tup [.i (fI c.ps k),.i (fE c.ps k)]):=QcQ (Qzf h.pl (by decide))
theorem QnT (ps:List PeerS) (k:List UInt8):(Qv ps k = -1 ∧ ∀ p∈ps,p.k≠k)∨∃ i,Qv ps k=((i:Nat):Int)∧i < ps.length∧(ps.getD i Qa).k=k:=by
 unfold Qv;by_cases h:k∈ps.map (·.k)
 ·right;rw [if_pos h];have h1:=List.idxOf_lt_length_of_mem h;refine ⟨_,rfl,by simpa using h1,?_⟩;have h2:=List.getElem_idxOf h1;rw [List.getElem_map] at h2;rw [Qy4,Qy7 (by simpa using h1)];exact h2
 ·left;rw [if_neg h];exact ⟨rfl,fun p hp e=>h (List.mem_map.2 ⟨p,hp,e⟩)⟩
theorem QgT {ps:List PeerS} {k:List UInt8} (h:fE ps k=0):0≤fI ps k∧fI ps k < (ps.length:Int)∧(fI ps k).toNat < ps.length∧fP ps k∈ps∧(fP ps k).k=k:=by
 unfold fE at h;unfold fP fI;rcases QnT ps k with ⟨e,_⟩ | ⟨i,e,hi,hk⟩
 ·rw [e] at h;cases h
 ·rw [e,if_neg (by omega),Int.toNat_natCast];exact ⟨by omega,by omega,hi,QY (c:=⟨[],0,ps⟩) hi,hk⟩
theorem Qdb {p q:PeerS}:Cf Tryz.prog 83 [] [ZS p,ZS q] [] (.b (QaO p q)):=by
 refine Qs {} Tryz.func83 Tryz.ntmps83 ?_
 repeat (refine Ob.mk ?_ ?_;focus (first | (exact Eq.refl _) | (exact fun hg=>ZL hg) | (exact fun hg=>hg)))
 trivial
def chH (p q:PeerS):List SetS:=k6 p q++k7 p q++k8 p q
def chL (p q:PeerS) (k:Nat):List SetS:=(chH p q++[⟨9,[],0,[]⟩])++(q.ns.take k).map n10
def chO (p q:PeerS):List SetS:=if p.ns=q.ns then chH p q else chL p q q.ns.length
def chP (p q:PeerS):List SetS:=if chO p q=[] then [] else ⟨4,q.k,0,[]⟩::chO p q
theorem QuE {p q:PeerS} (h:¬ p.s=q.s):k6 p q=[⟨6,q.s,0,[]⟩]:=if_neg h
theorem QuF {p q:PeerS} (h:p.s=q.s):k6 p q=[]:=if_pos h
theorem Qpu {p q:PeerS} (h:¬ p.e=q.e):k7 p q=[⟨7,q.e,0,[]⟩]:=if_neg h
theorem Qpv {p q:PeerS} (h:p.e=q.e):k7 p q=[]:=if_pos h
theorem Qh7 {p q:PeerS} (h:¬ p.a=q.a):k8 p q=[⟨8,[],q.a,[]⟩]:=if_neg h
theorem Qh8 {p q:PeerS} (h:p.a=q.a):k8 p q=[]:=if_pos h
theorem XC {p q:PeerS} {k:Nat} (hk:k < q.ns.length):chL p q (k+1)=chL p q k++[n10 (q.ns.getD k [])]:=by
 unfold chL;rw [Qbl hk,List.map_append,← List.append_assoc];rfl
theorem QjF (p q:PeerS):(chH p q).length≤3:=by
 unfold chH k6 k7 k8;split <;> split <;> split <;> simp
theorem Zd {p q:PeerS} (k:Nat):1≤(chL p q k).length∧(chL p q k).length≤4+k:=by
 unfold chL;rw [Qy8,Qy8,List.length_map,List.length_take,List.length_singleton];have:=QjF p q;omega
theorem QjG {p q:PeerS} {O:List SetS} (h:chO p q=O) (hO:O≠[]):chP p q=⟨4,q.k,0,[]⟩::O:=by
 unfold chP;rw [h,if_neg hO]
theorem Qpw {p q:PeerS} (h:chO p q=[]):chP p q=[]:=by unfold chP;rw [if_pos h]
theorem Zx {A:Type} (l:List A) (x:A):l.length+1=(l++[x]).length:=by simp
theorem J1 {p q:PeerS} (hp:PeerOk p) (hq:PeerOk q):Cf Tryz.prog 85 [] [ZS p,ZS q] [] (.lz (chP p q).length 5 (stQ (chP p q))):=by
 have hnl:=hq.nl;have hH:=QjF p q;refine Qs {nl:=[(5,48,5)],fz:=[71],cu:=[4,6,8]} Tryz.func85 Tryz.ntmps85 ?_;refine ⟨fun h1=>?_,fun h1=>?_⟩
 ·skip
  have c1:=h1
  (simp only [bsX] at c1)
  have e6:=QuE c1
  repeat refine o18 ?_
  have l6:(k6 p q).length≤1:=by rw [e6];simp
  refine ⟨⟨[(2,.own 1002 0),(3,.own 1003 0),(5,.osl 61 (k6 p q).length)],[(1002,.box [.s p.k,.s p.s,.s p.e,.i p.a,Qg p.ns] 33),(1003,.box [.s q.k,.s q.s,.s q.e,.i q.a,Qg q.ns] 33),(61,.rz (k6 p q).length 5 (stQ (k6 p q)) 48 0)]⟩,?_,?_⟩
  ·skip
   repeat (refine Ob.mk ?_ ?_;focus (first | (rw [e6];first | rfl | exact QnS (L:=[]) rfl sq_0 rfl rfl) | (exact Eq.refl _) | (exact Nat.le_of_ble_eq_true rfl) | (intro hg;((intro hq;((simp_all;done)))))))
   trivial
  refine ⟨fun h2=>?_,fun h2=>?_⟩
  ·skip
   have c2:=h2
   (simp only [bsX] at c2)
   have e7:k6 p q++k7 p q=k6 p q++[⟨7,q.e,0,[]⟩]:=congrArg (k6 p q ++ ·) (Qpu c2);have e7l:(k6 p q).length+1=(k6 p q++k7 p q).length:=by rw [e7];exact Zx _ _
   repeat refine o115 ?_
   have l7:(k6 p q++k7 p q).length≤2:=by (rw [e7];((rw [Qy8];show (k6 p q).length+1≤2;omega)))
   refine ⟨⟨[(2,.own 1002 0),(3,.own 1003 0),(5,.osl 61 (k6 p q++k7 p q).length)],[(1002,.box [.s p.k,.s p.s,.s p.e,.i p.a,Qg p.ns] 33),(1003,.box [.s q.k,.s q.s,.s q.e,.i q.a,Qg q.ns] 33),(61,.rz (k6 p q++k7 p q).length 5 (stQ (k6 p q++k7 p q)) 48 0)]⟩,?_,?_⟩
   ·skip
    repeat refine o116 ?_
    trivial
   refine ⟨fun h3=>?_,fun h3=>?_⟩
   ·skip
    have c3:=h3
    (simp only [bsX] at c3)
    have e8:chH p q=(k6 p q++k7 p q)++[⟨8,[],q.a,[]⟩]:=congrArg ((k6 p q++k7 p q) ++ ·) (Qh7 c3);have e8l:(k6 p q++k7 p q).length+1=(chH p q).length:=by rw [e8];exact Zx _ _
    repeat refine o66 ?_
    refine ⟨⟨[(2,.own 1002 0),(3,.own 1003 0),(5,.osl 61 (chH p q).length)],[(1002,.box [.s p.k,.s p.s,.s p.e,.i p.a,Qg p.ns] 33),(1003,.box [.s q.k,.s q.s,.s q.e,.i q.a,Qg q.ns] 33),(61,.rz (chH p q).length 5 (stQ (chH p q)) 48 0)]⟩,?_,?_⟩
    ·skip
     repeat refine o67 ?_
     trivial
    refine clX (Wc hp hq) ?_
    repeat refine o7 ?_
    refine ⟨fun h4=>?_,fun h4=>?_⟩
    ·skip
     have c4:=h4
     (simp only [bsX] at c4)
     have eL:chL p q 0=chH p q++[⟨9,[],0,[]⟩]:=Qy3 _;have eLl:(chH p q).length+1=(chL p q 0).length:=by rw [eL];exact Zx _ _
     have eO:chO p q=chL p q q.ns.length:=if_neg c4
     repeat refine o36 ?_
     refine ⟨Nat,fun k=>⟨[(3,.own 1003 0),(5,.osl 61 (chL p q k).length),(52,Qg q.ns),(53,.i (q.ns.length:Int)),(54,.i (k:Int))],[(1003,.box [.s q.k,.s q.s,.s q.e,.i q.a,Qg q.ns] 33),(61,.rz (chL p q k).length 5 (stQ (chL p q k)) 48 0)]⟩,fun k=>k≤q.ns.length,fun k=>q.ns.length - k,0,Qy5 _,?_,fun k hx1=>?_⟩
     ·skip
      repeat refine o37 ?_
      trivial
     refine ⟨fun h5=>?_,fun h5=>?_⟩
     ·skip
      have c5:=h5
      (simp only [bsX] at c5)
      have hk:k < q.ns.length:=by omega
      have hM:=XC (p:=p) hk;have hl1:(chL p q k).length+1=(chL p q (k+1)).length:=by rw [hM];simp
      have hsl:=Zd (p:=p) (q:=q) k
      repeat refine o13 ?_
      refine Ql (k+1) ?_
      repeat refine o38 ?_
      trivial
     ·skip
      have c5:=h5
      (simp only [bsX] at c5)
      obtain rfl:k=q.ns.length:=by omega
      have hsl:=Zd (p:=p) (q:=q) q.ns.length;refine ⟨fun h6=>?_,fun h6=>?_⟩
      ·skip
       have c6:=h6
       (simp only [bsX] at c6)
       have hz:=c6
       repeat refine o22 ?_
       trivial
      ·skip
       have c6:=h6
       (simp only [bsX] at c6)
       have hz:=c6
       repeat refine o39 ?_
       trivial
    ·skip
     have c4:=h4
     (simp only [bsX] at c4)
     have eO:chO p q=chH p q:=if_pos (by simpa using h4);refine ⟨fun h7=>?_,fun h7=>?_⟩
     ·skip
      have c7:=h7
      (simp only [bsX] at c7)
      have hz:=c7
      repeat refine o22 ?_
      trivial
     ·skip
      have c7:=h7
      (simp only [bsX] at c7)
      have hz:=c7
      repeat refine o40 ?_
      trivial
   ·skip
    have c3:=h3
    (simp only [bsX] at c3)
    have e8:chH p q=k6 p q++k7 p q:=(congrArg ((k6 p q++k7 p q) ++ ·) (Qh8 (by simpa using h3))).trans (Qy3 _);refine ⟨⟨[(2,.own 1002 0),(3,.own 1003 0),(5,.osl 61 (chH p q).length)],[(1002,.box [.s p.k,.s p.s,.s p.e,.i p.a,Qg p.ns] 33),(1003,.box [.s q.k,.s q.s,.s q.e,.i q.a,Qg q.ns] 33),(61,.rz (chH p q).length 5 (stQ (chH p q)) 48 0)]⟩,?_,?_⟩
    ·skip
     repeat refine o68 ?_
     trivial
    refine clX (Wc hp hq) ?_
    repeat refine o7 ?_
    refine ⟨fun h8=>?_,fun h8=>?_⟩
    ·skip
     have c8:=h8
     (simp only [bsX] at c8)
     have eL:chL p q 0=chH p q++[⟨9,[],0,[]⟩]:=Qy3 _;have eLl:(chH p q).length+1=(chL p q 0).length:=by rw [eL];exact Zx _ _
     have eO:chO p q=chL p q q.ns.length:=if_neg c8
     repeat refine o36 ?_
     refine ⟨Nat,fun k=>⟨[(3,.own 1003 0),(5,.osl 61 (chL p q k).length),(52,Qg q.ns),(53,.i (q.ns.length:Int)),(54,.i (k:Int))],[(1003,.box [.s q.k,.s q.s,.s q.e,.i q.a,Qg q.ns] 33),(61,.rz (chL p q k).length 5 (stQ (chL p q k)) 48 0)]⟩,fun k=>k≤q.ns.length,fun k=>q.ns.length - k,0,Qy5 _,?_,fun k hx1=>?_⟩
     ·skip
      repeat refine o37 ?_
      trivial
     refine ⟨fun h9=>?_,fun h9=>?_⟩
     ·skip
      have c9:=h9
      (simp only [bsX] at c9)
      have hk:k < q.ns.length:=by omega
      have hM:=XC (p:=p) hk;have hl1:(chL p q k).length+1=(chL p q (k+1)).length:=by rw [hM];simp
      have hsl:=Zd (p:=p) (q:=q) k
      repeat refine o13 ?_
      refine Ql (k+1) ?_
      repeat refine o38 ?_
      trivial
     ·skip
      have c9:=h9
      (simp only [bsX] at c9)
      obtain rfl:k=q.ns.length:=by omega
      have hsl:=Zd (p:=p) (q:=q) q.ns.length;refine ⟨fun h10=>?_,fun h10=>?_⟩
      ·skip
       have c10:=h10
       (simp only [bsX] at c10)
       have hz:=c10
       repeat refine o22 ?_
       trivial
      ·skip
       have c10:=h10
       (simp only [bsX] at c10)
       have hz:=c10
       repeat refine o39 ?_
       trivial
    ·skip
     have c8:=h8
     (simp only [bsX] at c8)
     have eO:chO p q=chH p q:=if_pos (by simpa using h8);refine ⟨fun h11=>?_,fun h11=>?_⟩
     ·skip
      have c11:=h11
      (simp only [bsX] at c11)
      have hz:=c11
      repeat refine o22 ?_
      trivial
     ·skip
      have c11:=h11
      (simp only [bsX] at c11)
      have hz:=c11
      repeat refine o40 ?_
      trivial
  ·skip
   have c2:=h2
   (simp only [bsX] at c2)
   have e7:k6 p q++k7 p q=k6 p q:=(congrArg (k6 p q ++ ·) (Qpv (by simpa using h2))).trans (Qy3 _);have l7:(k6 p q++k7 p q).length≤2:=by (rw [e7];omega)
   refine ⟨⟨[(2,.own 1002 0),(3,.own 1003 0),(5,.osl 61 (k6 p q++k7 p q).length)],[(1002,.box [.s p.k,.s p.s,.s p.e,.i p.a,Qg p.ns] 33),(1003,.box [.s q.k,.s q.s,.s q.e,.i q.a,Qg q.ns] 33),(61,.rz (k6 p q++k7 p q).length 5 (stQ (k6 p q++k7 p q)) 48 0)]⟩,?_,?_⟩
   ·skip
    repeat (refine Ob.mk ?_ ?_;focus (first | (rw [e7];exact fun _ _ _ _=>rfl) | (exact Eq.refl _) | omega | (intro hg;((intro hq;((simp_all;done))))) | (simp_all;done)))
    trivial
   refine ⟨fun h12=>?_,fun h12=>?_⟩
   ·skip
    have c12:=h12
    (simp only [bsX] at c12)
    have e8:chH p q=(k6 p q++k7 p q)++[⟨8,[],q.a,[]⟩]:=congrArg ((k6 p q++k7 p q) ++ ·) (Qh7 c12);have e8l:(k6 p q++k7 p q).length+1=(chH p q).length:=by rw [e8];exact Zx _ _
    repeat refine o66 ?_
    refine ⟨⟨[(2,.own 1002 0),(3,.own 1003 0),(5,.osl 61 (chH p q).length)],[(1002,.box [.s p.k,.s p.s,.s p.e,.i p.a,Qg p.ns] 33),(1003,.box [.s q.k,.s q.s,.s q.e,.i q.a,Qg q.ns] 33),(61,.rz (chH p q).length 5 (stQ (chH p q)) 48 0)]⟩,?_,?_⟩
    ·skip
     repeat refine o67 ?_
     trivial
    refine clX (Wc hp hq) ?_
    repeat refine o7 ?_
    refine ⟨fun h13=>?_,fun h13=>?_⟩
    ·skip
     have c13:=h13
     (simp only [bsX] at c13)
     have eL:chL p q 0=chH p q++[⟨9,[],0,[]⟩]:=Qy3 _;have eLl:(chH p q).length+1=(chL p q 0).length:=by rw [eL];exact Zx _ _
     have eO:chO p q=chL p q q.ns.length:=if_neg c13
     repeat refine o36 ?_
     refine ⟨Nat,fun k=>⟨[(3,.own 1003 0),(5,.osl 61 (chL p q k).length),(52,Qg q.ns),(53,.i (q.ns.length:Int)),(54,.i (k:Int))],[(1003,.box [.s q.k,.s q.s,.s q.e,.i q.a,Qg q.ns] 33),(61,.rz (chL p q k).length 5 (stQ (chL p q k)) 48 0)]⟩,fun k=>k≤q.ns.length,fun k=>q.ns.length - k,0,Qy5 _,?_,fun k hx1=>?_⟩
     ·skip
      repeat refine o37 ?_
      trivial
     refine ⟨fun h14=>?_,fun h14=>?_⟩
     ·skip
      have c14:=h14
      (simp only [bsX] at c14)
      have hk:k < q.ns.length:=by omega
      have hM:=XC (p:=p) hk;have hl1:(chL p q k).length+1=(chL p q (k+1)).length:=by rw [hM];simp
      have hsl:=Zd (p:=p) (q:=q) k
      repeat refine o13 ?_
      refine Ql (k+1) ?_
      repeat refine o38 ?_
      trivial
     ·skip
      have c14:=h14
      (simp only [bsX] at c14)
      obtain rfl:k=q.ns.length:=by omega
      have hsl:=Zd (p:=p) (q:=q) q.ns.length;refine ⟨fun h15=>?_,fun h15=>?_⟩
      ·skip
       have c15:=h15
       (simp only [bsX] at c15)
       have hz:=c15
       repeat refine o22 ?_
       trivial
      ·skip
       have c15:=h15
       (simp only [bsX] at c15)
       have hz:=c15
       repeat refine o39 ?_
       trivial
    ·skip
     have c13:=h13
     (simp only [bsX] at c13)
     have eO:chO p q=chH p q:=if_pos (by simpa using h13);refine ⟨fun h16=>?_,fun h16=>?_⟩
     ·skip
      have c16:=h16
      (simp only [bsX] at c16)
      have hz:=c16
      repeat refine o22 ?_
      trivial
     ·skip
      have c16:=h16
      (simp only [bsX] at c16)
      have hz:=c16
      repeat refine o40 ?_
      trivial
   ·skip
    have c12:=h12
    (simp only [bsX] at c12)
    have e8:chH p q=k6 p q++k7 p q:=(congrArg ((k6 p q++k7 p q) ++ ·) (Qh8 (by simpa using h12))).trans (Qy3 _);refine ⟨⟨[(2,.own 1002 0),(3,.own 1003 0),(5,.osl 61 (chH p q).length)],[(1002,.box [.s p.k,.s p.s,.s p.e,.i p.a,Qg p.ns] 33),(1003,.box [.s q.k,.s q.s,.s q.e,.i q.a,Qg q.ns] 33),(61,.rz (chH p q).length 5 (stQ (chH p q)) 48 0)]⟩,?_,?_⟩
    ·skip
     repeat refine o68 ?_
     trivial
    refine clX (Wc hp hq) ?_
    repeat refine o7 ?_
    refine ⟨fun h17=>?_,fun h17=>?_⟩
    ·skip
     have c17:=h17
     (simp only [bsX] at c17)
     have eL:chL p q 0=chH p q++[⟨9,[],0,[]⟩]:=Qy3 _;have eLl:(chH p q).length+1=(chL p q 0).length:=by rw [eL];exact Zx _ _
     have eO:chO p q=chL p q q.ns.length:=if_neg c17
     repeat refine o36 ?_
     refine ⟨Nat,fun k=>⟨[(3,.own 1003 0),(5,.osl 61 (chL p q k).length),(52,Qg q.ns),(53,.i (q.ns.length:Int)),(54,.i (k:Int))],[(1003,.box [.s q.k,.s q.s,.s q.e,.i q.a,Qg q.ns] 33),(61,.rz (chL p q k).length 5 (stQ (chL p q k)) 48 0)]⟩,fun k=>k≤q.ns.length,fun k=>q.ns.length - k,0,Qy5 _,?_,fun k hx1=>?_⟩
     ·skip
      repeat refine o37 ?_
      trivial
     refine ⟨fun h18=>?_,fun h18=>?_⟩
     ·skip
      have c18:=h18
      (simp only [bsX] at c18)
      have hk:k < q.ns.length:=by omega
      have hM:=XC (p:=p) hk;have hl1:(chL p q k).length+1=(chL p q (k+1)).length:=by rw [hM];simp
      have hsl:=Zd (p:=p) (q:=q) k
      repeat refine o13 ?_
      refine Ql (k+1) ?_
      repeat refine o38 ?_
      trivial
     ·skip
      have c18:=h18
      (simp only [bsX] at c18)
      obtain rfl:k=q.ns.length:=by omega
      have hsl:=Zd (p:=p) (q:=q) q.ns.length;refine ⟨fun h19=>?_,fun h19=>?_⟩
      ·skip
       have c19:=h19
       (simp only [bsX] at c19)
       have hz:=c19
       repeat refine o22 ?_
       trivial
      ·skip
       have c19:=h19
       (simp only [bsX] at c19)
       have hz:=c19
       repeat refine o39 ?_
       trivial
    ·skip
     have c17:=h17
     (simp only [bsX] at c17)
     have eO:chO p q=chH p q:=if_pos (by simpa using h17);refine ⟨fun h20=>?_,fun h20=>?_⟩
     ·skip
      have c20:=h20
      (simp only [bsX] at c20)
      have hz:=c20
      repeat refine o22 ?_
      trivial
     ·skip
      have c20:=h20
      (simp only [bsX] at c20)
      have hz:=c20
      repeat refine o40 ?_
      trivial
 ·skip
  have c1:=h1
  (simp only [bsX] at c1)
  have e6:=QuF (by simpa using h1);have l6:(k6 p q).length≤1:=by rw [e6];simp
  refine ⟨⟨[(2,.own 1002 0),(3,.own 1003 0),(5,.osl 61 (k6 p q).length)],[(1002,.box [.s p.k,.s p.s,.s p.e,.i p.a,Qg p.ns] 33),(1003,.box [.s q.k,.s q.s,.s q.e,.i q.a,Qg q.ns] 33),(61,.rz (k6 p q).length 5 (stQ (k6 p q)) 48 0)]⟩,?_,?_⟩
  ·skip
   repeat (refine Ob.mk ?_ ?_;focus (first | (rw [e6];first | rfl | exact sq_0) | (exact Eq.refl _) | omega | (intro hg;((intro hq;((simp_all;done)))))))
   trivial
  refine ⟨fun h21=>?_,fun h21=>?_⟩
  ·skip
   have c21:=h21
   (simp only [bsX] at c21)
   have e7:k6 p q++k7 p q=k6 p q++[⟨7,q.e,0,[]⟩]:=congrArg (k6 p q ++ ·) (Qpu c21);have e7l:(k6 p q).length+1=(k6 p q++k7 p q).length:=by rw [e7];exact Zx _ _
   repeat refine o115 ?_
   have l7:(k6 p q++k7 p q).length≤2:=by (rw [e7];((rw [Qy8];show (k6 p q).length+1≤2;omega)))
   refine ⟨⟨[(2,.own 1002 0),(3,.own 1003 0),(5,.osl 61 (k6 p q++k7 p q).length)],[(1002,.box [.s p.k,.s p.s,.s p.e,.i p.a,Qg p.ns] 33),(1003,.box [.s q.k,.s q.s,.s q.e,.i q.a,Qg q.ns] 33),(61,.rz (k6 p q++k7 p q).length 5 (stQ (k6 p q++k7 p q)) 48 0)]⟩,?_,?_⟩
   ·skip
    repeat refine o116 ?_
    trivial
   refine ⟨fun h22=>?_,fun h22=>?_⟩
   ·skip
    have c22:=h22
    (simp only [bsX] at c22)
    have e8:chH p q=(k6 p q++k7 p q)++[⟨8,[],q.a,[]⟩]:=congrArg ((k6 p q++k7 p q) ++ ·) (Qh7 c22);have e8l:(k6 p q++k7 p q).length+1=(chH p q).length:=by rw [e8];exact Zx _ _
    repeat refine o66 ?_
    refine ⟨⟨[(2,.own 1002 0),(3,.own 1003 0),(5,.osl 61 (chH p q).length)],[(1002,.box [.s p.k,.s p.s,.s p.e,.i p.a,Qg p.ns] 33),(1003,.box [.s q.k,.s q.s,.s q.e,.i q.a,Qg q.ns] 33),(61,.rz (chH p q).length 5 (stQ (chH p q)) 48 0)]⟩,?_,?_⟩
    ·skip
     repeat refine o67 ?_
     trivial
    refine clX (Wc hp hq) ?_
    repeat refine o7 ?_
    refine ⟨fun h23=>?_,fun h23=>?_⟩
    ·skip
     have c23:=h23
     (simp only [bsX] at c23)
     have eL:chL p q 0=chH p q++[⟨9,[],0,[]⟩]:=Qy3 _;have eLl:(chH p q).length+1=(chL p q 0).length:=by rw [eL];exact Zx _ _
     have eO:chO p q=chL p q q.ns.length:=if_neg c23
     repeat refine o36 ?_
     refine ⟨Nat,fun k=>⟨[(3,.own 1003 0),(5,.osl 61 (chL p q k).length),(52,Qg q.ns),(53,.i (q.ns.length:Int)),(54,.i (k:Int))],[(1003,.box [.s q.k,.s q.s,.s q.e,.i q.a,Qg q.ns] 33),(61,.rz (chL p q k).length 5 (stQ (chL p q k)) 48 0)]⟩,fun k=>k≤q.ns.length,fun k=>q.ns.length - k,0,Qy5 _,?_,fun k hx1=>?_⟩
     ·skip
      repeat refine o37 ?_
      trivial
     refine ⟨fun h24=>?_,fun h24=>?_⟩
     ·skip
      have c24:=h24
      (simp only [bsX] at c24)
      have hk:k < q.ns.length:=by omega
      have hM:=XC (p:=p) hk;have hl1:(chL p q k).length+1=(chL p q (k+1)).length:=by rw [hM];simp
      have hsl:=Zd (p:=p) (q:=q) k
      repeat refine o13 ?_
      refine Ql (k+1) ?_
      repeat refine o38 ?_
      trivial
     ·skip
      have c24:=h24
      (simp only [bsX] at c24)
      obtain rfl:k=q.ns.length:=by omega
      have hsl:=Zd (p:=p) (q:=q) q.ns.length;refine ⟨fun h25=>?_,fun h25=>?_⟩
      ·skip
       have c25:=h25
       (simp only [bsX] at c25)
       have hz:=c25
       repeat refine o22 ?_
       trivial
      ·skip
       have c25:=h25
       (simp only [bsX] at c25)
       have hz:=c25
       repeat refine o39 ?_
       trivial
    ·skip
     have c23:=h23
     (simp only [bsX] at c23)
     have eO:chO p q=chH p q:=if_pos (by simpa using h23);refine ⟨fun h26=>?_,fun h26=>?_⟩
     ·skip
      have c26:=h26
      (simp only [bsX] at c26)
      have hz:=c26
      repeat refine o22 ?_
      trivial
     ·skip
      have c26:=h26
      (simp only [bsX] at c26)
      have hz:=c26
      repeat refine o40 ?_
      trivial
   ·skip
    have c22:=h22
    (simp only [bsX] at c22)
    have e8:chH p q=k6 p q++k7 p q:=(congrArg ((k6 p q++k7 p q) ++ ·) (Qh8 (by simpa using h22))).trans (Qy3 _);refine ⟨⟨[(2,.own 1002 0),(3,.own 1003 0),(5,.osl 61 (chH p q).length)],[(1002,.box [.s p.k,.s p.s,.s p.e,.i p.a,Qg p.ns] 33),(1003,.box [.s q.k,.s q.s,.s q.e,.i q.a,Qg q.ns] 33),(61,.rz (chH p q).length 5 (stQ (chH p q)) 48 0)]⟩,?_,?_⟩
    ·skip
     repeat refine o68 ?_
     trivial
    refine clX (Wc hp hq) ?_
    repeat refine o7 ?_
    refine ⟨fun h27=>?_,fun h27=>?_⟩
    ·skip
     have c27:=h27
     (simp only [bsX] at c27)
     have eL:chL p q 0=chH p q++[⟨9,[],0,[]⟩]:=Qy3 _;have eLl:(chH p q).length+1=(chL p q 0).length:=by rw [eL];exact Zx _ _
     have eO:chO p q=chL p q q.ns.length:=if_neg c27
     repeat refine o36 ?_
     refine ⟨Nat,fun k=>⟨[(3,.own 1003 0),(5,.osl 61 (chL p q k).length),(52,Qg q.ns),(53,.i (q.ns.length:Int)),(54,.i (k:Int))],[(1003,.box [.s q.k,.s q.s,.s q.e,.i q.a,Qg q.ns] 33),(61,.rz (chL p q k).length 5 (stQ (chL p q k)) 48 0)]⟩,fun k=>k≤q.ns.length,fun k=>q.ns.length - k,0,Qy5 _,?_,fun k hx1=>?_⟩
     ·skip
      repeat refine o37 ?_
      trivial
     refine ⟨fun h28=>?_,fun h28=>?_⟩
     ·skip
      have c28:=h28
      (simp only [bsX] at c28)
      have hk:k < q.ns.length:=by omega
      have hM:=XC (p:=p) hk;have hl1:(chL p q k).length+1=(chL p q (k+1)).length:=by rw [hM];simp
      have hsl:=Zd (p:=p) (q:=q) k
      repeat refine o13 ?_
      refine Ql (k+1) ?_
      repeat refine o38 ?_
      trivial
     ·skip
      have c28:=h28
      (simp only [bsX] at c28)
      obtain rfl:k=q.ns.length:=by omega
      have hsl:=Zd (p:=p) (q:=q) q.ns.length;refine ⟨fun h29=>?_,fun h29=>?_⟩
      ·skip
       have c29:=h29
       (simp only [bsX] at c29)
       have hz:=c29
       repeat refine o22 ?_
       trivial
      ·skip
       have c29:=h29
       (simp only [bsX] at c29)
       have hz:=c29
       repeat refine o39 ?_
       trivial
    ·skip
     have c27:=h27
     (simp only [bsX] at c27)
     have eO:chO p q=chH p q:=if_pos (by simpa using h27);refine ⟨fun h30=>?_,fun h30=>?_⟩
     ·skip
      have c30:=h30
      (simp only [bsX] at c30)
      have hz:=c30
      repeat refine o22 ?_
      trivial
     ·skip
      have c30:=h30
      (simp only [bsX] at c30)
      have hz:=c30
      repeat refine o40 ?_
      trivial
  ·skip
   have c21:=h21
   (simp only [bsX] at c21)
   have e7:k6 p q++k7 p q=k6 p q:=(congrArg (k6 p q ++ ·) (Qpv (by simpa using h21))).trans (Qy3 _);have l7:(k6 p q++k7 p q).length≤2:=by (rw [e7];omega)
   refine ⟨⟨[(2,.own 1002 0),(3,.own 1003 0),(5,.osl 61 (k6 p q++k7 p q).length)],[(1002,.box [.s p.k,.s p.s,.s p.e,.i p.a,Qg p.ns] 33),(1003,.box [.s q.k,.s q.s,.s q.e,.i q.a,Qg q.ns] 33),(61,.rz (k6 p q++k7 p q).length 5 (stQ (k6 p q++k7 p q)) 48 0)]⟩,?_,?_⟩
   ·skip
    repeat (refine Ob.mk ?_ ?_;focus (first | (rw [e6];exact sq_0) | (exact Eq.refl _) | omega | (intro hg;((intro hq;((simp_all;done))))) | (simp_all;done)))
    trivial
   refine ⟨fun h31=>?_,fun h31=>?_⟩
   ·skip
    have c31:=h31
    (simp only [bsX] at c31)
    have e8:chH p q=(k6 p q++k7 p q)++[⟨8,[],q.a,[]⟩]:=congrArg ((k6 p q++k7 p q) ++ ·) (Qh7 c31);have e8l:(k6 p q++k7 p q).length+1=(chH p q).length:=by rw [e8];exact Zx _ _
    repeat refine o66 ?_
    refine ⟨⟨[(2,.own 1002 0),(3,.own 1003 0),(5,.osl 61 (chH p q).length)],[(1002,.box [.s p.k,.s p.s,.s p.e,.i p.a,Qg p.ns] 33),(1003,.box [.s q.k,.s q.s,.s q.e,.i q.a,Qg q.ns] 33),(61,.rz (chH p q).length 5 (stQ (chH p q)) 48 0)]⟩,?_,?_⟩
    ·skip
     repeat refine o67 ?_
     trivial
    refine clX (Wc hp hq) ?_
    repeat refine o7 ?_
    refine ⟨fun h32=>?_,fun h32=>?_⟩
    ·skip
     have c32:=h32
     (simp only [bsX] at c32)
     have eL:chL p q 0=chH p q++[⟨9,[],0,[]⟩]:=Qy3 _;have eLl:(chH p q).length+1=(chL p q 0).length:=by rw [eL];exact Zx _ _
     have eO:chO p q=chL p q q.ns.length:=if_neg c32
     repeat refine o36 ?_
     refine ⟨Nat,fun k=>⟨[(3,.own 1003 0),(5,.osl 61 (chL p q k).length),(52,Qg q.ns),(53,.i (q.ns.length:Int)),(54,.i (k:Int))],[(1003,.box [.s q.k,.s q.s,.s q.e,.i q.a,Qg q.ns] 33),(61,.rz (chL p q k).length 5 (stQ (chL p q k)) 48 0)]⟩,fun k=>k≤q.ns.length,fun k=>q.ns.length - k,0,Qy5 _,?_,fun k hx1=>?_⟩
     ·skip
      repeat refine o37 ?_
      trivial
     refine ⟨fun h33=>?_,fun h33=>?_⟩
     ·skip
      have c33:=h33
      (simp only [bsX] at c33)
      have hk:k < q.ns.length:=by omega
      have hM:=XC (p:=p) hk;have hl1:(chL p q k).length+1=(chL p q (k+1)).length:=by rw [hM];simp
      have hsl:=Zd (p:=p) (q:=q) k
      repeat refine o13 ?_
      refine Ql (k+1) ?_
      repeat refine o38 ?_
      trivial
     ·skip
      have c33:=h33
      (simp only [bsX] at c33)
      obtain rfl:k=q.ns.length:=by omega
      have hsl:=Zd (p:=p) (q:=q) q.ns.length;refine ⟨fun h34=>?_,fun h34=>?_⟩
      ·skip
       have c34:=h34
       (simp only [bsX] at c34)
       have hz:=c34
       repeat refine o22 ?_
       trivial
      ·skip
       have c34:=h34
       (simp only [bsX] at c34)
       have hz:=c34
       repeat refine o39 ?_
       trivial
    ·skip
     have c32:=h32
     (simp only [bsX] at c32)
     have eO:chO p q=chH p q:=if_pos (by simpa using h32);refine ⟨fun h35=>?_,fun h35=>?_⟩
     ·skip
      have c35:=h35
      (simp only [bsX] at c35)
      have hz:=c35
      repeat refine o22 ?_
      trivial
     ·skip
      have c35:=h35
      (simp only [bsX] at c35)
      have hz:=c35
      repeat refine o40 ?_
      trivial
   ·skip
    have c31:=h31
    (simp only [bsX] at c31)
    have e8:chH p q=k6 p q++k7 p q:=(congrArg ((k6 p q++k7 p q) ++ ·) (Qh8 (by simpa using h31))).trans (Qy3 _);refine ⟨⟨[(2,.own 1002 0),(3,.own 1003 0),(5,.osl 61 (chH p q).length)],[(1002,.box [.s p.k,.s p.s,.s p.e,.i p.a,Qg p.ns] 33),(1003,.box [.s q.k,.s q.s,.s q.e,.i q.a,Qg q.ns] 33),(61,.rz (chH p q).length 5 (stQ (chH p q)) 48 0)]⟩,?_,?_⟩
    ·skip
     repeat refine o68 ?_
     trivial
    refine clX (Wc hp hq) ?_
    repeat refine o7 ?_
    refine ⟨fun h36=>?_,fun h36=>?_⟩
    ·skip
     have c36:=h36
     (simp only [bsX] at c36)
     have eL:chL p q 0=chH p q++[⟨9,[],0,[]⟩]:=Qy3 _;have eLl:(chH p q).length+1=(chL p q 0).length:=by rw [eL];exact Zx _ _
     have eO:chO p q=chL p q q.ns.length:=if_neg c36
     repeat refine o36 ?_
     refine ⟨Nat,fun k=>⟨[(3,.own 1003 0),(5,.osl 61 (chL p q k).length),(52,Qg q.ns),(53,.i (q.ns.length:Int)),(54,.i (k:Int))],[(1003,.box [.s q.k,.s q.s,.s q.e,.i q.a,Qg q.ns] 33),(61,.rz (chL p q k).length 5 (stQ (chL p q k)) 48 0)]⟩,fun k=>k≤q.ns.length,fun k=>q.ns.length - k,0,Qy5 _,?_,fun k hx1=>?_⟩
     ·skip
      repeat refine o37 ?_
      trivial
     refine ⟨fun h37=>?_,fun h37=>?_⟩
     ·skip
      have c37:=h37
      (simp only [bsX] at c37)
      have hk:k < q.ns.length:=by omega
      have hM:=XC (p:=p) hk;have hl1:(chL p q k).length+1=(chL p q (k+1)).length:=by rw [hM];simp
      have hsl:=Zd (p:=p) (q:=q) k
      repeat refine o13 ?_
      refine Ql (k+1) ?_
      repeat refine o38 ?_
      trivial
     ·skip
      have c37:=h37
      (simp only [bsX] at c37)
      obtain rfl:k=q.ns.length:=by omega
      have hsl:=Zd (p:=p) (q:=q) q.ns.length;refine ⟨fun h38=>?_,fun h38=>?_⟩
      ·skip
       have c38:=h38
       (simp only [bsX] at c38)
       have hz:=c38
       repeat refine o22 ?_
       trivial
      ·skip
       have c38:=h38
       (simp only [bsX] at c38)
       have hz:=c38
       repeat refine o39 ?_
       trivial
    ·skip
     have c36:=h36
     (simp only [bsX] at c36)
     have eO:chO p q=chH p q:=if_pos (by simpa using h36);refine ⟨fun h39=>?_,fun h39=>?_⟩
     ·skip
      have c39:=h39
      (simp only [bsX] at c39)
      have hz:=c39
      repeat refine o22 ?_
      trivial
     ·skip
      have c39:=h39
      (simp only [bsX] at c39)
      have hz:=c39
      repeat refine o40 ?_
      trivial
end
end Go.Proofs.YtcebndkiagbddaaGreatDoor
