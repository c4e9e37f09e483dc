/- A part of the proof: contracts of functions and what they stand on. Written shorter and merged by a program (pack.py). -/
import Derived.Test.YtcebndkiagbddaaGreatDoorK40
set_option linter.unusedVariables false
set_option linter.unusedSimpArgs false
set_option maxRecDepth 100000
set_option maxHeartbeats 4000000
open List renaming flatMap_cons -> Qxo, getD_eq_getElem?_getD -> Qxp, length_cons -> Qxq, length_append -> Qxr
open Nat renaming beq -> Qxs
namespace Go.Proofs.YtcebndkiagbddaaGreatDoor
section
open Go.RowKit
abbrev Qa1 (p:PeerS):List EV:=[.s p.k,.s p.s,.s p.e,.i p.a,Wm p.ns]
theorem QfA (ps:List PeerS):lzC ps.length 5 (fun a b=>Qe (ps.getD a Qa) b)=pvL (ps.flatMap Qa1):=by
 induction ps with
 | nil=>rfl
 | cons p ps ih =>
  have e:=Vi 1 ps.length 5 (fun a b=>Qe ((p::ps).getD a Qa) b);rw [Nat.add_comm 1] at e;rw [Qxq,e,Qxo]
  have e2:(fun a b=>Qe ((p::ps).getD (1+a) Qa) b)=fun a b=>Qe (ps.getD a Qa) b:=by
   funext a b;rw [Nat.add_comm 1 a,List.getD_cons_succ]
  rw [e2,ih];rfl
theorem Qot (ps:List PeerS):∀ k,(ps.flatMap Qa1).take (k * 5)=(ps.take k).flatMap Qa1/\(ps.flatMap Qa1).drop (k * 5)=(ps.drop k).flatMap Qa1:=by
 induction ps with
 | nil=>intro k;simp
 | cons p ps ih =>
  intro k
  cases k with
  | zero=>simp
  | succ k =>
   obtain ⟨h1,h2⟩:=ih k;rw [Nat.succ_mul,Qxo,List.take_succ_cons,List.drop_succ_cons,Qxo,<- h1,<- h2];exact ⟨rfl,rfl⟩
theorem Qje (ps:List PeerS):(ps.flatMap Qa1).length=ps.length * 5:=by
 induction ps with
 | nil=>rfl
 | cons p ps ih=>rw [Qxo,Qxr,ih];simp only [Qxq,List.length_nil];omega
abbrev Xy (ps:List PeerS) (k:Nat) (p:PeerS):List PeerS:=ps.take k++p::ps.drop k
theorem Qrz {ps:List PeerS} {k:Nat} {p:PeerS} (hk:k<=ps.length):(Xy ps k p).length=ps.length+1:=by
 show (ps.take k++p::ps.drop k).length=_;rw [Qxr,Qxq,List.length_take,List.length_drop];omega
theorem QrA {ps:List PeerS} {p:PeerS} {k:Nat} (hk:k<=ps.length) (hn:ps.length<=1000000) :
  Cf Tryz.prog 156 [(0,.rz ps.length 5 (fun a b=>Qe (ps.getD a Qa) b) 33 0),(1,.row (Qa1 p) 33 5 0)] [.osl 0 ps.length,.i (k:Int),.osl 1 1]
   [(60,.rz (Xy ps k p).length 5 (fun a b=>Qe ((Xy ps k p).getD a Qa) b) 33 0)] (.osl 60 (Xy ps k p).length):=by
 have hl:=Qrz (p:=p) hk;have hc:=Qje ps
 have k0:=Cf.ins (n:=ps.length) (k:=k) (cells:=ps.flatMap Qa1) (xs:=Qa1 p) (eb:=.rz ps.length 5 (fun a b=>Qe (ps.getD a Qa) b) 33 0) (ob:=.rz (Xy ps k p).length 5 (fun a b=>Qe ((Xy ps k p).getD a Qa) b) 33 0) QwV (by kernel_rfl) (by decide) (by decide) (by
  show OB.row (lzC ps.length 5 _) _ _ _=_
  rw [QfA]) hc.symm rfl hk (by omega) (by
  show OB.row (lzC (Xy ps k p).length 5 _) _ _ _=_;obtain ⟨h1,h2⟩:=Qot ps k
  rw [QfA,h1,h2,List.flatMap_append,Qxo,List.append_assoc])
 rw [hl];rw [hl] at k0;exact k0
theorem QwW (ps:List PeerS) (k:List UInt8):lbP ps k<=ps.length:=List.countP_le_length
theorem QuM {ps qs:List PeerS} {i j m:Nat} {X:EV} (h1:∀ a,a≠i->ps.getD a Qa=qs.getD a Qa) (h2:∀ b,b < 5->b≠j->Qe (ps.getD i Qa) b=Qe (qs.getD i Qa) b) (h3:X=Qe (qs.getD i Qa) j) :
  ∀ a,a < m -> ∀ b,b < 5->stZ (fun a b=>Qe (ps.getD a Qa) b) i j [X] a b=Qe (qs.getD a Qa) b:=fun a _ b hb=>by
 unfold stZ;by_cases e:a=i
 ·subst e;by_cases e2:b=j
  ·subst e2;have:(Qxs a a && (Nat.ble b b && Nat.blt b (b+[X].length)))=true:=by simp [Nat.blt_eq]
   rw [this,cond_true,Nat.sub_self,h3];rfl
  ·have:(Qxs a a && (Nat.ble j b && Nat.blt b (j+[X].length)))=false:=by
    cases hq:(Qxs a a && (Nat.ble j b && Nat.blt b (j+[X].length))) with
    | false=>rfl
    | true =>
     simp only [Bool.and_eq_true,Nat.ble_eq,Nat.blt_eq,Qxq,List.length_nil] at hq;omega
   rw [this,cond_false];exact h2 b hb e2
 ·have:Qxs a i=false:=by
   cases q:Qxs a i with
   | false=>rfl
   | true=>exact absurd (Nat.eq_of_beq_eq_true q) e
  rw [this];show Qe (ps.getD a Qa) b=_;rw [h1 a e]
theorem V9 {ps:List PeerS} {i:Nat} {p:PeerS} (hi:i < ps.length):(ps.set i p).getD i Qa=p:=by
 rw [Qxp,List.getElem?_set_self hi];rfl
theorem Qg0 {ps:List PeerS} {i:Nat} {p:PeerS}:∀ a,a≠i->ps.getD a Qa=(ps.set i p).getD a Qa:=fun a h=>by
 rw [Qxp,Qxp,List.getElem?_set_ne (Ne.symm h)]
theorem b5 {P:Nat->Prop} (h0:P 0) (h1:P 1) (h2:P 2) (h3:P 3) (h4:P 4):∀ j,j < 5->P j:=fun j hj=>by
 have:j=0\/j=1\/j=2\/j=3\/j=4:=by omega
 rcases this with rfl | rfl | rfl | rfl | rfl <;> assumption
theorem Qk6 {c:ConfS}:Cf Tryz.prog 112 [(0,.box [.s c.k,.i c.port,.osl 1 c.ps.length] 25),(1,.rz (c.ps).length 5 (fun i j=>Qe ((c.ps).getD i Qa) j) 33 0)] [.own 0 0,.s c.k] [(0,.box [.s c.k,.i c.port,.osl 1 c.ps.length] 25),(1,.rz (c.ps).length 5 (fun i j=>Qe ((c.ps).getD i Qa) j) 33 0)] (.i 14):=by
 refine Qr {} Tryz.func112 Tryz.ntmps112 ?_;refine ⟨fun h1=>?_,fun h1=>?_⟩
 ·skip
  (simp only [Int.reduceToNat,UInt8.reduceOfNat] at h1)
  have c1:=h1
  (simp only [bsX] at c1)
  repeat refine o1 ?_
  trivial
 ·skip
  (simp only [Int.reduceToNat,UInt8.reduceOfNat] at h1)
  have c1:=h1
  (simp only [bsX] at c1)
  exact absurd trivial c1
theorem Qou {c:ConfS} {k:List UInt8} {i:Nat} (hl:c.ps.length<=6) (hk:Qq c.ps k=(i:Int)) (hn:k≠c.k):Cf Tryz.prog 112 [(0,.box [.s c.k,.i c.port,.osl 1 c.ps.length] 25),(1,.rz (c.ps).length 5 (fun i j=>Qe ((c.ps).getD i Qa) j) 33 0)] [.own 0 0,.s k] [(0,.box [.s c.k,.i c.port,.osl 1 c.ps.length] 25),(1,.rz (c.ps).length 5 (fun i j=>Qe ((c.ps).getD i Qa) j) 33 0)] (.i 0):=by
 refine Qr {bo:=[20]} Tryz.func112 Tryz.ntmps112 ?_;refine ⟨fun h1=>?_,fun h1=>?_⟩
 ·skip
  have c1:=h1
  (simp only [bsX] at c1)
  exact absurd c1 hn
 ·skip
  have c1:=h1
  (simp only [bsX] at c1)
  refine clX (Qen (c:=c) hl hk) ?_
  repeat refine o2 ?_
  refine ⟨fun h2=>?_,fun h2=>?_⟩
  ·skip
   (simp only [Int.reduceToNat,UInt8.reduceOfNat] at h2)
   have c2:=h2
   (simp only [bsX] at c2)
   repeat refine o1 ?_
   trivial
  ·skip
   (simp only [Int.reduceToNat,UInt8.reduceOfNat] at h2)
   have c2:=h2
   (simp only [bsX] at c2)
   exact absurd trivial c2
theorem Qov {c:ConfS} {k:List UInt8} (hl:c.ps.length=6) (hk:Qq c.ps k = -1) (hn:k≠c.k):Cf Tryz.prog 112 [(0,.box [.s c.k,.i c.port,.osl 1 c.ps.length] 25),(1,.rz (c.ps).length 5 (fun i j=>Qe ((c.ps).getD i Qa) j) 33 0)] [.own 0 0,.s k] [(0,.box [.s c.k,.i c.port,.osl 1 c.ps.length] 25),(1,.rz (c.ps).length 5 (fun i j=>Qe ((c.ps).getD i Qa) j) 33 0)] (.i 7):=by
 refine Qr {bo:=[20]} Tryz.func112 Tryz.ntmps112 ?_;refine ⟨fun h1=>?_,fun h1=>?_⟩
 ·skip
  have c1:=h1
  (simp only [bsX] at c1)
  exact absurd c1 hn
 ·skip
  have c1:=h1
  (simp only [bsX] at c1)
  refine clX (Qa0 (c:=c) (by omega) hk) ?_
  repeat refine o2 ?_
  refine knF ?_;refine ⟨fun h3=>?_,fun h3=>?_⟩
  ·skip
   have c3:=h3
   (simp only [bsX] at c3)
   repeat refine o1 ?_
   trivial
  ·skip
   have c3:=h3
   (simp only [bsX] at c3)
   exact absurd (by omega) c3
theorem Qow {c:ConfS} {k:List UInt8} (hl:c.ps.length < 6) (hk:Qq c.ps k = -1) (hn:k≠c.k) (hi:Z3 c.ps):Cf Tryz.prog 112 [(0,.box [.s c.k,.i c.port,.osl 1 c.ps.length] 25),(1,.rz (c.ps).length 5 (fun i j=>Qe ((c.ps).getD i Qa) j) 33 0)] [.own 0 0,.s k] [(0,.box [.s c.k,.i c.port,.osl 7200 (Xy c.ps (lbP c.ps k) ⟨k,[],[],0,[]⟩).length] 25),(7200,.rz (Xy c.ps (lbP c.ps k) ⟨k,[],[],0,[]⟩).length 5 (fun i j=>Qe ((Xy c.ps (lbP c.ps k) ⟨k,[],[],0,[]⟩).getD i Qa) j) 33 0)] (.i 0):=by
 have hlb:=QwW c.ps k;refine Qr {bo:=[20],nz:=[(47,4,Wm [])]} Tryz.func112 Tryz.ntmps112 ?_;refine ⟨fun h1=>?_,fun h1=>?_⟩
 ·skip
  have c1:=h1
  (simp only [bsX] at c1)
  exact absurd c1 hn
 ·skip
  have c1:=h1
  (simp only [bsX] at c1)
  refine clX (Qa0 (c:=c) (by omega) hk) ?_
  repeat refine o2 ?_
  refine knF ?_;refine ⟨fun h3=>?_,fun h3=>?_⟩
  ·skip
   have c3:=h3
   (simp only [bsX] at c3)
   exact absurd c3 (by omega)
  ·skip
   have c3:=h3
   (simp only [bsX] at c3)
   refine clX (QuK (ps:=c.ps) (k:=k) (by omega) hi) ?_
   repeat refine o1 ?_
   refine clX (QrA (ps:=c.ps) (p:=⟨k,[],[],0,[]⟩) hlb (by omega)) ?_
   repeat refine o1 ?_
   trivial
end
end Go.Proofs.YtcebndkiagbddaaGreatDoor
