/- A part of the proof: contracts of functions and what they stand on. Written shorter and merged by a program (pack.py). -/
import Derived.Test.YtcebndkiagbddaaGreatDoorK34
set_option linter.unusedVariables false
set_option linter.unusedSimpArgs false
set_option maxRecDepth 100000
set_option maxHeartbeats 4000000
open List renaming flatMap_cons → Qy3, getD_eq_getElem?_getD → Qy4, length_cons → Qy5, length_append → Qy6
open Nat renaming beq → Qy7
namespace Go.Proofs.YtcebndkiagbddaaGreatDoor
section
open Go.RowKit
abbrev QcS (p:PeerS):List EV:=[.s p.k,.s p.s,.s p.e,.i p.a,Qg p.ns]
theorem QhN (ps:List PeerS):lzC ps.length 5 (fun a b=>Qk (ps.getD a Qa) b)=pvL (ps.flatMap QcS):=by
 induction ps with
 | nil=>rfl
 | cons p ps ih =>
  have e:=JJ 1 ps.length 5 (fun a b=>Qk ((p::ps).getD a Qa) b);rw [Nat.add_comm 1] at e;rw [Qy5,e,Qy3]
  have e2:(fun a b=>Qk ((p::ps).getD (1+a) Qa) b)=fun a b=>Qk (ps.getD a Qa) b:=by
   funext a b;rw [Nat.add_comm 1 a,List.getD_cons_succ]
  rw [e2,ih];rfl
theorem QqD (ps:List PeerS):∀ k,(ps.flatMap QcS).take (k * 5)=(ps.take k).flatMap QcS∧(ps.flatMap QcS).drop (k * 5)=(ps.drop k).flatMap QcS:=by
 induction ps with
 | nil=>intro k;simp
 | cons p ps ih =>
  intro k
  cases k with
  | zero=>simp
  | succ k =>
   obtain ⟨h1,h2⟩:=ih k;rw [Nat.succ_mul,Qy3,List.take_succ_cons,List.drop_succ_cons,Qy3,← h1,← h2];exact ⟨rfl,rfl⟩
theorem Qly (ps:List PeerS):(ps.flatMap QcS).length=ps.length * 5:=by
 induction ps with
 | nil=>rfl
 | cons p ps ih=>rw [Qy3,Qy6,ih];simp only [Qy5,List.length_nil];omega
abbrev VT (ps:List PeerS) (k:Nat) (p:PeerS):List PeerS:=ps.take k++p::ps.drop k
theorem Qty {ps:List PeerS} {k:Nat} {p:PeerS} (hk:k≤ps.length):(VT ps k p).length=ps.length+1:=by
 show (ps.take k++p::ps.drop k).length=_;rw [Qy6,Qy5,List.length_take,List.length_drop];omega
theorem Qtz {ps:List PeerS} {p:PeerS} {k:Nat} (hk:k≤ps.length) (hn:ps.length≤1000000) :
  Cf Tryz.prog 156 [(0,.rz ps.length 5 (fun a b=>Qk (ps.getD a Qa) b) 33 0),(1,.row (QcS p) 33 5 0)] [.osl 0 ps.length,.i (k:Int),.osl 1 1]
   [(60,.rz (VT ps k p).length 5 (fun a b=>Qk ((VT ps k p).getD a Qa) b) 33 0)] (.osl 60 (VT ps k p).length):=by
 have hl:=Qty (p:=p) hk;have hc:=Qly ps
 have k0:=Cf.ins (n:=ps.length) (k:=k) (cells:=ps.flatMap QcS) (xs:=QcS p) (eb:=.rz ps.length 5 (fun a b=>Qk (ps.getD a Qa) b) 33 0) (ob:=.rz (VT ps k p).length 5 (fun a b=>Qk ((VT ps k p).getD a Qa) b) 33 0) Qyy (by kernel_rfl) (by decide) (by decide) (by
  show OB.row (lzC ps.length 5 _) _ _ _=_
  rw [QhN]) hc.symm rfl hk (by omega) (by
  show OB.row (lzC (VT ps k p).length 5 _) _ _ _=_;obtain ⟨h1,h2⟩:=QqD ps k
  rw [QhN,h1,h2,List.flatMap_append,Qy3,List.append_assoc])
 rw [hl];rw [hl] at k0;exact k0
theorem Qyz (ps:List PeerS) (k:List UInt8):lbP ps k≤ps.length:=List.countP_le_length
theorem Qwz {ps qs:List PeerS} {i j m:Nat} {X:EV} (h1:∀ a,a≠i→ps.getD a Qa=qs.getD a Qa) (h2:∀ b,b < 5→b≠j→Qk (ps.getD i Qa) b=Qk (qs.getD i Qa) b) (h3:X=Qk (qs.getD i Qa) j) :
  ∀ a,a < m → ∀ b,b < 5→stZ (fun a b=>Qk (ps.getD a Qa) b) i j [X] a b=Qk (qs.getD a Qa) b:=fun a _ b hb=>by
 unfold stZ;by_cases e:a=i
 ·subst e;by_cases e2:b=j
  ·subst e2;have:(Qy7 a a && (Nat.ble b b && Nat.blt b (b+[X].length)))=true:=by simp [Nat.blt_eq]
   rw [this,cond_true,Nat.sub_self,h3];rfl
  ·have:(Qy7 a a && (Nat.ble j b && Nat.blt b (j+[X].length)))=false:=by
    cases hq:(Qy7 a a && (Nat.ble j b && Nat.blt b (j+[X].length))) with
    | false=>rfl
    | true =>
     simp only [Bool.and_eq_true,Nat.ble_eq,Nat.blt_eq,Qy5,List.length_nil] at hq;omega
   rw [this,cond_false];exact h2 b hb e2
 ·have:Qy7 a i=false:=by
   cases q:Qy7 a i with
   | false=>rfl
   | true=>exact absurd (Nat.eq_of_beq_eq_true q) e
  rw [this];show Qk (ps.getD a Qa) b=_;rw [h1 a e]
theorem QaK {ps:List PeerS} {i:Nat} {p:PeerS} (hi:i < ps.length):(ps.set i p).getD i Qa=p:=by
 rw [Qy4,List.getElem?_set_self hi];rfl
theorem Qjj {ps:List PeerS} {i:Nat} {p:PeerS}:∀ a,a≠i→ps.getD a Qa=(ps.set i p).getD a Qa:=fun a h=>by
 rw [Qy4,Qy4,List.getElem?_set_ne (Ne.symm h)]
theorem b5 {P:Nat→Prop} (h0:P 0) (h1:P 1) (h2:P 2) (h3:P 3) (h4:P 4):∀ j,j < 5→P j:=fun j hj=>by
 have:j=0∨j=1∨j=2∨j=3∨j=4:=by omega
 rcases this with rfl | rfl | rfl | rfl | rfl <;> assumption
theorem Qnk {c:ConfS}:Cf Tryz.prog 112 [(0,.box [.s c.k,.i c.port,.osl 1 c.ps.length] 25),(1,.rz (c.ps).length 5 (fun i j=>Qk ((c.ps).getD i Qa) j) 33 0)] [.own 0 0,.s c.k] [(0,.box [.s c.k,.i c.port,.osl 1 c.ps.length] 25),(1,.rz (c.ps).length 5 (fun i j=>Qk ((c.ps).getD i Qa) j) 33 0)] (.i 14):=by
 refine Qs {} Tryz.func112 Tryz.ntmps112 ?_;refine ⟨fun h1=>?_,fun h1=>?_⟩
 ·skip
  (simp only [Int.reduceToNat,UInt8.reduceOfNat] at h1)
  have c1:=h1
  (simp only [bsX] at c1)
  repeat refine o2 ?_
  trivial
 ·skip
  (simp only [Int.reduceToNat,UInt8.reduceOfNat] at h1)
  have c1:=h1
  (simp only [bsX] at c1)
  exact absurd trivial c1
theorem QqE {c:ConfS} {k:List UInt8} {i:Nat} (hl:c.ps.length≤6) (hk:Qv c.ps k=(i:Int)) (hn:k≠c.k):Cf Tryz.prog 112 [(0,.box [.s c.k,.i c.port,.osl 1 c.ps.length] 25),(1,.rz (c.ps).length 5 (fun i j=>Qk ((c.ps).getD i Qa) j) 33 0)] [.own 0 0,.s k] [(0,.box [.s c.k,.i c.port,.osl 1 c.ps.length] 25),(1,.rz (c.ps).length 5 (fun i j=>Qk ((c.ps).getD i Qa) j) 33 0)] (.i 0):=by
 refine Qs {bo:=[20]} Tryz.func112 Tryz.ntmps112 ?_;refine ⟨fun h1=>?_,fun h1=>?_⟩
 ·skip
  have c1:=h1
  (simp only [bsX] at c1)
  exact absurd c1 hn
 ·skip
  have c1:=h1
  (simp only [bsX] at c1)
  refine clX (Qgk (c:=c) hl hk) ?_
  repeat refine o1 ?_
  refine ⟨fun h2=>?_,fun h2=>?_⟩
  ·skip
   (simp only [Int.reduceToNat,UInt8.reduceOfNat] at h2)
   have c2:=h2
   (simp only [bsX] at c2)
   repeat refine o2 ?_
   trivial
  ·skip
   (simp only [Int.reduceToNat,UInt8.reduceOfNat] at h2)
   have c2:=h2
   (simp only [bsX] at c2)
   exact absurd trivial c2
theorem QqF {c:ConfS} {k:List UInt8} (hl:c.ps.length=6) (hk:Qv c.ps k = -1) (hn:k≠c.k):Cf Tryz.prog 112 [(0,.box [.s c.k,.i c.port,.osl 1 c.ps.length] 25),(1,.rz (c.ps).length 5 (fun i j=>Qk ((c.ps).getD i Qa) j) 33 0)] [.own 0 0,.s k] [(0,.box [.s c.k,.i c.port,.osl 1 c.ps.length] 25),(1,.rz (c.ps).length 5 (fun i j=>Qk ((c.ps).getD i Qa) j) 33 0)] (.i 7):=by
 refine Qs {bo:=[20]} Tryz.func112 Tryz.ntmps112 ?_;refine ⟨fun h1=>?_,fun h1=>?_⟩
 ·skip
  have c1:=h1
  (simp only [bsX] at c1)
  exact absurd c1 hn
 ·skip
  have c1:=h1
  (simp only [bsX] at c1)
  refine clX (QcR (c:=c) (by omega) hk) ?_
  repeat refine o1 ?_
  refine knF ?_;refine ⟨fun h3=>?_,fun h3=>?_⟩
  ·skip
   have c3:=h3
   (simp only [bsX] at c3)
   repeat refine o2 ?_
   trivial
  ·skip
   have c3:=h3
   (simp only [bsX] at c3)
   exact absurd (by omega) c3
theorem QqG {c:ConfS} {k:List UInt8} (hl:c.ps.length < 6) (hk:Qv c.ps k = -1) (hn:k≠c.k) (hi:Yl c.ps):Cf Tryz.prog 112 [(0,.box [.s c.k,.i c.port,.osl 1 c.ps.length] 25),(1,.rz (c.ps).length 5 (fun i j=>Qk ((c.ps).getD i Qa) j) 33 0)] [.own 0 0,.s k] [(0,.box [.s c.k,.i c.port,.osl 7200 (VT c.ps (lbP c.ps k) ⟨k,[],[],0,[]⟩).length] 25),(7200,.rz (VT c.ps (lbP c.ps k) ⟨k,[],[],0,[]⟩).length 5 (fun i j=>Qk ((VT c.ps (lbP c.ps k) ⟨k,[],[],0,[]⟩).getD i Qa) j) 33 0)] (.i 0):=by
 have hlb:=Qyz c.ps k;refine Qs {bo:=[20],nz:=[(47,4,Qg [])]} Tryz.func112 Tryz.ntmps112 ?_;refine ⟨fun h1=>?_,fun h1=>?_⟩
 ·skip
  have c1:=h1
  (simp only [bsX] at c1)
  exact absurd c1 hn
 ·skip
  have c1:=h1
  (simp only [bsX] at c1)
  refine clX (QcR (c:=c) (by omega) hk) ?_
  repeat refine o1 ?_
  refine knF ?_;refine ⟨fun h3=>?_,fun h3=>?_⟩
  ·skip
   have c3:=h3
   (simp only [bsX] at c3)
   exact absurd c3 (by omega)
  ·skip
   have c3:=h3
   (simp only [bsX] at c3)
   refine clX (Qwx (ps:=c.ps) (k:=k) (by omega) hi) ?_
   repeat refine o2 ?_
   refine clX (Qtz (ps:=c.ps) (p:=⟨k,[],[],0,[]⟩) hlb (by omega)) ?_
   repeat refine o2 ?_
   trivial
end
end Go.Proofs.YtcebndkiagbddaaGreatDoor
