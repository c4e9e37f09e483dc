/- A part of the proof: contracts of functions and what they stand on. Written shorter and merged by a program (pack.py). -/
import Derived.Test.YtcebndkiagbddaaGreatDoorK26
set_option linter.unusedVariables false
set_option linter.unusedSimpArgs false
set_option maxRecDepth 100000
set_option maxHeartbeats 4000000
open Eq renaming refl → Qy3
open Nat renaming zero_le → Qy4
namespace Go.Proofs.YtcebndkiagbddaaGreatDoor
section
open Go.RowKit
def QbG (p:PeerS) (i:Nat):Nat→EV
 | 0=>.s p.k
 | 1=>.s p.s
 | 2=>.s p.e
 | 3=>.i p.a
 | _=>.osl i p.ns.length
abbrev rK (m:Nat) (ps:List PeerS) (ns:List Nat):EB:=.ra m 5 (fun a b=>QbG (ps.getD a Qa) a b) 33 ns
abbrev bK (c:ConfS) (q m:Nat):EB:=.box [.s c.k,.i c.port,.osl q m] 25
abbrev dK (ps:List PeerS) (a:Nat):EB:=.rz (ps.getD a Qa).ns.length 2 (fun x y=>QL ((ps.getD a Qa).ns.getD x []) y) 36 0
abbrev nmK:List Nat:=[7000,7001,7002,7003,7004,7005]
theorem Qxu {p:PeerS} {a i:Nat} (h:a≠i):∀ b,noL i (QbG p a b)
 | 0=>rfl
 | 1=>rfl
 | 2=>rfl
 | 3=>rfl
 | _+4=>h
theorem isL_5 {g:Nat→EV} (h0:QiG (g 0)) (h1:QiG (g 1)) (h2:QiG (g 2)) (h3:QiG (g 3)) (h4:QiG (g 4)):∀ b,b < 5→QiG (g b):=fun j hj=>by
 have:j=0∨j=1∨j=2∨j=3∨j=4:=by omega
 rcases this with rfl | rfl | rfl | rfl | rfl <;> assumption
def knK (c:ConfS) (i a:Nat):Nat:=if a < i then (c.ps.getD a Qa).ns.length else 0
theorem Qgl {c:ConfS} {i a:Nat} (h:a < i):knK c i a=(c.ps.getD a Qa).ns.length:=if_pos h
theorem QdM {c:ConfS} {i a:Nat} (h:¬ a < i):knK c i a=0:=if_neg h
theorem QwA {c:ConfS} (a:Nat):knK c c.ps.length a=(c.ps.getD a Qa).ns.length:=by
 by_cases h:a < c.ps.length
 ·exact if_pos h
 ·rw [QdM h,List.getD_eq_getElem?_getD,List.getElem?_eq_none (by omega)];rfl
theorem QtG {n:Nat} {f g h:Nat→Nat→EV} (h1:∀ a,a < n → ∀ j,j < 5→f a j=h a j) (h2:∀ j,j < 5→toL n (g 0 j)=h n j):∀ a,a < n+1 → ∀ j,j < 5→raJ n f g a j=h a j:=fun a ha j hj=>by
 unfold raJ;by_cases e:a < n
 ·rw [show Nat.blt a n=true from Nat.blt_eq.mpr e];exact h1 a e j hj
 ·obtain rfl:a=n:=by omega
  have:Nat.blt a a=false:=by
   cases hb:Nat.blt a a with
   | false=>rfl
   | true=>rw [Nat.blt_eq] at hb;omega
  rw [this];exact h2 j hj
theorem QtH {n:Nat} {g h:Nat→EV} (h0:toL n (g 0)=h 0) (h1:toL n (g 1)=h 1) (h2:toL n (g 2)=h 2) (h3:toL n (g 3)=h 3) (h4:toL n (g 4)=h 4):∀ j,j < 5→toL n (g j)=h j:=fun j hj=>by
 have:j=0∨j=1∨j=2∨j=3∨j=4:=by omega
 rcases this with rfl | rfl | rfl | rfl | rfl <;> assumption
theorem Zf {c:ConfS} (hl:c.ps.length≤6) (h8:∀ p∈c.ps,p.ns.length≤1000000):Cf Tryz.prog 64 [] [Qp c] [(60,.ra c.ps.length 5 (fun i j=>QbG (c.ps.getD i Qa) i j) 33 [7000,7001,7002,7003,7004,7005]),(7000,.rz ((c.ps.getD 0 Qa).ns.length) 2 ((fun x y=>QL (((c.ps.getD 0 Qa).ns).getD x []) y)) 36 0),(7001,.rz ((c.ps.getD 1 Qa).ns.length) 2 ((fun x y=>QL (((c.ps.getD 1 Qa).ns).getD x []) y)) 36 0),(7002,.rz ((c.ps.getD 2 Qa).ns.length) 2 ((fun x y=>QL (((c.ps.getD 2 Qa).ns).getD x []) y)) 36 0),(7003,.rz ((c.ps.getD 3 Qa).ns.length) 2 ((fun x y=>QL (((c.ps.getD 3 Qa).ns).getD x []) y)) 36 0),(7004,.rz ((c.ps.getD 4 Qa).ns.length) 2 ((fun x y=>QL (((c.ps.getD 4 Qa).ns).getD x []) y)) 36 0),(7005,.rz ((c.ps.getD 5 Qa).ns.length) 2 ((fun x y=>QL (((c.ps.getD 5 Qa).ns).getD x []) y)) 36 0)] (.agg [.s c.k,.i c.port,.osl 60 c.ps.length]):=by
 refine Qs {rk:=[(9,36,2,[7000,7001,7002,7003,7004,7005])]} Tryz.func64 Tryz.ntmps64 ?_
 repeat refine o3 ?_
 refine ⟨Nat,fun i=>⟨[(1,.own 1001 0),(2,.own 1002 0),(3,.osl 61 i),(11,Qo c.ps),(12,.i (c.ps.length:Int)),(13,.i (i:Int))],[(1001,.box [.s c.k,.i c.port,Qo c.ps] 25),(1002,.box [.s [],.i 0,.nil] 25),(61,.ra i 5 (fun a b=>QbG (c.ps.getD a Qa) a b) 33 [7000,7001,7002,7003,7004,7005]),(7000,.rz (knK c i 0) 2 ((fun x y=>QL (((c.ps.getD 0 Qa).ns).getD x []) y)) 36 0),(7001,.rz (knK c i 1) 2 ((fun x y=>QL (((c.ps.getD 1 Qa).ns).getD x []) y)) 36 0),(7002,.rz (knK c i 2) 2 ((fun x y=>QL (((c.ps.getD 2 Qa).ns).getD x []) y)) 36 0),(7003,.rz (knK c i 3) 2 ((fun x y=>QL (((c.ps.getD 3 Qa).ns).getD x []) y)) 36 0),(7004,.rz (knK c i 4) 2 ((fun x y=>QL (((c.ps.getD 4 Qa).ns).getD x []) y)) 36 0),(7005,.rz (knK c i 5) 2 ((fun x y=>QL (((c.ps.getD 5 Qa).ns).getD x []) y)) 36 0)]⟩,fun i=>i≤c.ps.length,fun i=>c.ps.length - i,0,Qy4 _,?_,fun i hx1=>?_⟩
 ·skip
  repeat (refine Ob.mk ?_ ?_;focus (first | (exact (QdM (by decide)).symm) | (exact Qy3 _) | omega | (intro hg;((intro hq;((simp_all;done)))))))
  trivial
 refine ⟨fun h1=>?_,fun h1=>?_⟩
 ·skip
  have c1:=h1
  (simp only [bsX] at c1)
  have hi:i < c.ps.length:=by omega
  rcases (by omega:i=0∨i=1∨i=2∨i=3∨i=4∨i=5) with rfl | rfl | rfl | rfl | rfl | rfl
  ·skip
   repeat refine o4 ?_
   refine clX (Xg (ns:=(c.ps.getD 0 Qa).ns) (h8 _ (QY hi))) ?_
   repeat refine o45 ?_
   refine Ql (0+1) ?_
   repeat (refine Ob.mk ?_ ?_;focus (first | (exact (Qgl (by decide)).symm) | (rw [QdM (by decide),QdM (by decide)];done) | (exact QtG (fun _ _ _ _=>rfl) (QtH (Qy3 _) (Qy3 _) (Qy3 _) (Qy3 _) (Qy3 _))) | (exact Qy3 _) | omega | (intro hg;((intro hq;((simp_all;done)))))))
   trivial
  ·skip
   repeat refine o4 ?_
   refine clX (Xg (ns:=(c.ps.getD 1 Qa).ns) (h8 _ (QY hi))) ?_
   repeat refine o45 ?_
   refine Ql (1+1) ?_
   repeat refine o63 ?_
   trivial
  ·skip
   repeat refine o4 ?_
   refine clX (Xg (ns:=(c.ps.getD 2 Qa).ns) (h8 _ (QY hi))) ?_
   repeat refine o45 ?_
   refine Ql (2+1) ?_
   repeat refine o63 ?_
   trivial
  ·skip
   repeat refine o4 ?_
   refine clX (Xg (ns:=(c.ps.getD 3 Qa).ns) (h8 _ (QY hi))) ?_
   repeat refine o45 ?_
   refine Ql (3+1) ?_
   repeat refine o63 ?_
   trivial
  ·skip
   repeat refine o4 ?_
   refine clX (Xg (ns:=(c.ps.getD 4 Qa).ns) (h8 _ (QY hi))) ?_
   repeat refine o45 ?_
   refine Ql (4+1) ?_
   repeat refine o63 ?_
   trivial
  ·skip
   repeat refine o4 ?_
   refine clX (Xg (ns:=(c.ps.getD 5 Qa).ns) (h8 _ (QY hi))) ?_
   repeat refine o45 ?_
   refine Ql (5+1) ?_
   repeat (refine Ob.mk ?_ ?_;focus (first | (exact Qgl (by decide)) | (exact (Qgl (by decide)).symm) | (exact QtG (fun _ _ _ _=>rfl) (QtH (Qy3 _) (Qy3 _) (Qy3 _) (Qy3 _) (Qy3 _))) | (exact Qy3 _) | omega | (intro hg;((intro hq;((simp_all;done)))))))
   trivial
 ·skip
  have c1:=h1
  (simp only [bsX] at c1)
  have hi:i=c.ps.length:=by omega
  subst hi
  repeat (refine Ob.mk ?_ ?_;focus (first | (exact QwA _) | (exact Qy3 _) | omega | (intro hg;((intro hq;((simp_all;done)))))))
  trivial
end
section
open Go.RowKit Go.Lib
theorem Xz {s:SetS} (h:QP s=0) (hp:s.p.length≤32):Vg s:=by
 obtain ⟨h1,h2,ht,hn,hpp,hk,h6,h7,hnn⟩:=YI h;refine ⟨h1,h2,ht,hn,hpp,?_,hnn,hp⟩
 cases hb:isT s.k with
 | false=>rw [ht hb];exact Qy4 _
 | true =>
  rcases Qil.1 hb with e | e | e | e
  ·have:=(YH (hk (.inl e))).2;omega
  ·have:=(YH (hk (.inr e))).2;omega
  ·rcases h6 e with k | ⟨_,k⟩
   ·rw [k];exact Qy4 _
   ·have:=(YH k).2;omega
  ·have:=(Qcg (h7 e)).2;omega
end
section
open Go.RowKit Go.Lib
def fI (ps:List PeerS) (k:List UInt8):Int:=if Qv ps k < 0 then 0 else Qv ps k
def fE (ps:List PeerS) (k:List UInt8):Int:=if Qv ps k < 0 then 5 else 0
def fP (ps:List PeerS) (k:List UInt8):PeerS:=ps.getD (fI ps k).toNat Qa
def QaO (p q:PeerS):Bool:=!decide (p.e=[]) && decide (q.e=[])
def k6 (p q:PeerS):List SetS:=if p.s=q.s then [] else [⟨6,q.s,0,[]⟩]
def k7 (p q:PeerS):List SetS:=if p.e=q.e then [] else [⟨7,q.e,0,[]⟩]
def k8 (p q:PeerS):List SetS:=if p.a=q.a then [] else [⟨8,[],q.a,[]⟩]
end
end Go.Proofs.YtcebndkiagbddaaGreatDoor
