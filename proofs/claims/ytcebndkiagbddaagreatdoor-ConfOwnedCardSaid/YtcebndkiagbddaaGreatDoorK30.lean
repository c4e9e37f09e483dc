/- A part of the proof: contracts of functions and what they stand on. Written shorter and merged by a program (pack.py). -/
import Derived.Test.YtcebndkiagbddaaGreatDoorK27
import Derived.Test.YtcebndkiagbddaaGreatDoorK22
set_option linter.unusedVariables false
set_option linter.unusedSimpArgs false
set_option maxRecDepth 100000
set_option maxHeartbeats 4000000
open List renaming getD_eq_getElem?_getD -> Qxo, getElem?_eq_getElem -> Qxp, append_assoc -> Qxr, take_succ_eq_append_getElem -> Qxs, length_append -> Qxt, nodup_append -> Qxu, pairwise_iff_getElem -> Qxv, take_append_drop -> Qxx, flatMap_append -> Qxy, length_cons -> Qxw
open Nat renaming zero_le -> Qxq
open Option renaming getD_some -> Qxz
namespace Go.Proofs.YtcebndkiagbddaaGreatDoor
section
open Go.RowKit Go.Lib
theorem QmS {x:UInt32}:Cf Tryz.prog 185 [] [.u32 x] [] (.b false):=by
 refine Qr {} Tryz.func185 Tryz.ntmps185 ?_
 repeat (refine Ob.mk ?_ ?_;focus (simp;done))
 trivial
theorem QmT {x:Int}:Cf Tryz.prog 186 [] [.i x] [] (.b false):=by
 refine Qr {} Tryz.func186 Tryz.ntmps186 ?_
 repeat (refine Ob.mk ?_ ?_;focus (simp;done))
 trivial
def V8 (x y:Int):Int:=if x < y then -1 else if y < x then 1 else 0
theorem QuB {x y:UInt32}:Cf Tryz.prog 151 [] [.u32 x,.u32 y] [] (.i (V8 (x.toNat:Int) (y.toNat:Int))):=by
 refine Qr {} Tryz.func151 Tryz.ntmps151 ?_;refine ⟨_,_,_,_,(@QmS ?_),?_⟩
 rotate_left 1
 repeat refine o0 ?_
 refine ⟨_,_,_,_,(@QmS ?_),?_⟩
 rotate_left 1
 repeat refine o0 ?_
 refine ⟨fun h1=>?_,fun h1=>?_⟩
 ·skip
  have c1:=h1;exact absurd (show false=true from h1) (by decide)
 ·skip
  (simp only [Int.reduceToNat,UInt8.reduceOfNat] at h1)
  have c1:=h1;refine ⟨fun h2=>?_,fun h2=>?_⟩
  ·skip
   have c2:=h2;exact absurd (show false=true from h2) (by decide)
  ·skip
   (simp only [Int.reduceToNat,UInt8.reduceOfNat] at h2)
   have c2:=h2;refine ⟨fun h3=>?_,fun h3=>?_⟩
   ·skip
    have c3:=h3
    (simp only [bsX] at c3)
    have hR:V8 (x.toNat:Int) (y.toNat:Int) = -1:=if_pos (by omega)
    repeat refine o26 ?_
    trivial
   ·skip
    have c3:=h3
    (simp only [bsX] at c3)
    refine ⟨fun h4=>?_,fun h4=>?_⟩
    ·skip
     have c4:=h4
     (simp only [bsX] at c4)
     have hR:V8 (x.toNat:Int) (y.toNat:Int)=1:=(if_neg (by omega)).trans (if_pos (by omega))
     repeat refine o26 ?_
     trivial
    ·skip
     have c4:=h4
     (simp only [bsX] at c4)
     have hR:V8 (x.toNat:Int) (y.toNat:Int)=0:=(if_neg (by omega)).trans (if_neg (by omega))
     repeat refine o26 ?_
     trivial
theorem QuC {x y:Int}:Cf Tryz.prog 152 [] [.i x,.i y] [] (.i (V8 x y)):=by
 refine Qr {} Tryz.func152 Tryz.ntmps152 ?_;refine ⟨_,_,_,_,(@QmT ?_),?_⟩
 rotate_left 1
 repeat refine o0 ?_
 refine ⟨_,_,_,_,(@QmT ?_),?_⟩
 rotate_left 1
 repeat refine o0 ?_
 refine ⟨fun h1=>?_,fun h1=>?_⟩
 ·skip
  have c1:=h1;exact absurd (show false=true from h1) (by decide)
 ·skip
  (simp only [Int.reduceToNat,UInt8.reduceOfNat] at h1)
  have c1:=h1;refine ⟨fun h2=>?_,fun h2=>?_⟩
  ·skip
   have c2:=h2;exact absurd (show false=true from h2) (by decide)
  ·skip
   (simp only [Int.reduceToNat,UInt8.reduceOfNat] at h2)
   have c2:=h2;refine ⟨fun h3=>?_,fun h3=>?_⟩
   ·skip
    have c3:=h3
    (simp only [bsX] at c3)
    have hR:V8 x y = -1:=if_pos (by omega)
    repeat refine o26 ?_
    trivial
   ·skip
    have c3:=h3
    (simp only [bsX] at c3)
    refine ⟨fun h4=>?_,fun h4=>?_⟩
    ·skip
     have c4:=h4
     (simp only [bsX] at c4)
     have hR:V8 x y=1:=(if_neg (by omega)).trans (if_pos (by omega))
     repeat refine o26 ?_
     trivial
    ·skip
     have c4:=h4
     (simp only [bsX] at c4)
     have hR:V8 x y=0:=(if_neg (by omega)).trans (if_neg (by omega))
     repeat refine o26 ?_
     trivial
def orI (a b:Int):Int:=if a=0 then b else a
theorem or_T {a b:Int} {i:Nat} (hi:i < 2) (h1:1<=i->a=0) (h:¬ [a,b].getD i 0=0):[a,b].getD i 0=orI a b:=by
 have:i=0\/i=1:=by omega
 rcases this with rfl | rfl
 ·exact (if_neg h).symm
 ·exact (if_pos (h1 (by decide))).symm
theorem or_F {a b:Int} {i:Nat} (hi:i < 2) (h1:1<=i->a=0) (h:[a,b].getD i 0=0):i+1<=2/\(1<=i+1->a=0)/\(2<=i+1->b=0):=by
 have:i=0\/i=1:=by omega
 rcases this with rfl | rfl
 ·exact ⟨by omega,fun _=>h,fun k=>absurd k (by decide)⟩
 ·exact ⟨by omega,fun _=>h1 (by decide),fun _=>h⟩
theorem or_0 {a b:Int} (h1:a=0) (h2:b=0):orI a b=0:=by rw [h1,h2];rfl
theorem Qro {a b:Int}:Cf Tryz.prog 150 [] [.sl [.i a,.i b] 2] [] (.i (orI a b)):=by
 refine Qr {sel:=[10]} Tryz.func150 Tryz.ntmps150 ?_;refine ⟨Nat,fun i=>⟨[(3,.i 0),(6,.sl [.i a,.i b] 2),(7,.i 2),(8,.i (i:Int))],[]⟩,fun i=>i<=2/\(1<=i->a=0)/\(2<=i->b=0),fun i=>2 - i,0,by omega,?_,fun i hx1=>?_⟩
 ·skip
  repeat refine o0 ?_
  trivial
 refine ⟨fun h1=>?_,fun h1=>?_⟩
 ·skip
  have c1:=h1
  (simp only [bsX] at c1)
  have hi:i < 2:=by omega
  repeat refine o3 ?_
  refine ⟨fun h2=>?_,fun h2=>?_⟩
  ·skip
   have c2:=h2
   (simp only [bsX] at c2)
   have hR:=or_T hi hx1.2.1 c2
   repeat (refine Ob.mk ?_ ?_;focus (exact hR))
   trivial
  ·skip
   have c2:=h2
   (simp only [bsX] at c2)
   have hnx:=or_F hi hx1.2.1 c2
   repeat refine o4 ?_
   refine Qt (i+1) ?_
   repeat refine o0 ?_
   trivial
 ·skip
  have c1:=h1
  (simp only [bsX] at c1)
  have hR:0=orI a b:=(or_0 (hx1.2.1 (by omega)) (hx1.2.2 (by omega))).symm
  repeat (refine Ob.mk ?_ ?_;focus (exact hR))
  trivial
def Vr (p q:List Bool):Int:=orI (V8 ((adr p).toNat:Int) ((adr q).toNat:Int)) (V8 (p.length:Int) (q.length:Int))
theorem ZL {p q:List Bool}:Cf Tryz.prog 107 [] [We p,We q] [] (.i (Vr p q)):=by
 refine QJ {} Tryz.func107 Tryz.ntmps107 ?_;refine ⟨[0,1,0,4,15,0,32,0,128,511,1023,2047,4095],by kernel_rfl,?_⟩;refine ⟨_,_,_,_,(@QuB ?_ ?_),?_⟩
 rotate_left 2
 repeat refine o0 ?_
 refine ⟨_,_,_,_,(@QuC ?_ ?_),?_⟩
 rotate_left 2
 repeat refine o0 ?_
 refine ⟨_,_,_,_,(@Qro ?_ ?_),?_⟩
 rotate_left 2
 repeat refine o0 ?_
 trivial
theorem QaZ {p q:List Bool} (h:ltB p q=true):Vr p q = -1:=by
 unfold Vr;rw [QW,QW];rcases Xq.1 h with k | ⟨k1,k2⟩
 ·have e:V8 (QN p:Int) (QN q:Int) = -1:=if_pos (by omega);rw [e];rfl
 ·have e:V8 (QN p:Int) (QN q:Int)=0:=(if_neg (by omega)).trans (if_neg (by omega));have e2:V8 (p.length:Int) (q.length:Int) = -1:=if_pos (by omega);rw [e,e2];rfl
theorem Qem {k:List UInt8} (h:ZX k=0):Cf Tryz.prog 62 [] [.s k] [] (.i 0):=h ▸ Xk
theorem Qi8 {s:List UInt8} (h:Xx s=0):Cf Tryz.prog 106 [] [.s s] [] (.tup [.u32 (UInt32.ofNat (Qi6 s).1),.i (Qi6 s).2,.i 0]):=by
 have hl:=(Qea h).2;have:=Qrj (s:=s) (by omega);rw [h] at this;exact this
theorem QuD:Go.Lib.repeatL [48] 64=W5:=by decide +kernel
theorem QwN:Cf Tryz.prog 75 [] [.s [48],.i 64] [] (.s W5):=by
 have:=QbE (l:=[48]) (c:=64) (by decide) (by decide);rw [QuD] at this;exact this
theorem QcH {l:List (List Bool)} (h:Y2 l) {i:Nat} (h0:0 < i) (hi:i < l.length):ltB (l.getD (i - 1) []) (l.getD i [])=true:=by
 rw [Qxo,Qxo,Qxp hi,Qxp (by omega)];exact Qxv.1 h (i - 1) i (by omega) hi (by omega)
theorem Xs {p:PeerS} (h:PeerOk p) (i:Nat):(p.ns.getD i []).length<=32:=Xr h.nb i
theorem Qfw {p:PeerS} (h:PeerOk p):Cf Tryz.prog 63 [] [QmM p] [] (.i 0):=by
 have hnl:=h.nl;have ha:=h.a;refine QJ {} Tryz.func63 Tryz.ntmps63 ?_;refine clX (Qem h.k) ?_
 repeat refine o0 ?_
 refine knF ?_;refine ⟨fun h2=>?_,fun h2=>?_⟩
 ·skip
  have c2:=h2
  (simp only [bsX] at c2)
  have hs:=h.s.resolve_left c2;refine clX (Qem hs.2) ?_
  repeat refine o0 ?_
  refine knF ?_;refine ⟨[0,1,0,7],by kernel_rfl,?_⟩;refine clX QwN ?_
  repeat refine o0 ?_
  refine ⟨fun h4=>?_,fun h4=>?_⟩
  ·skip
   have c4:=h4
   (simp only [bsX] at c4)
   exact absurd c4 hs.1
  ·skip
   have c4:=h4
   (simp only [bsX] at c4)
   refine ⟨fun h5=>?_,fun h5=>?_⟩
   ·skip
    have c5:=h5
    (simp only [bsX] at c5)
    have he:=h.e.resolve_left c5;refine clX (Qi8 he) ?_
    repeat refine o0 ?_
    refine ⟨fun h6=>?_,fun h6=>?_⟩
    ·skip
     (simp only [Int.reduceToNat,UInt8.reduceOfNat] at h6)
     have c6:=h6
     (simp only [bsX] at c6)
     repeat refine o0 ?_
     trivial
    ·skip
     (simp only [Int.reduceToNat,UInt8.reduceOfNat] at h6)
     have c6:=h6
     (simp only [bsX] at c6)
     repeat refine o22 ?_
     refine ⟨fun h7=>?_,fun h7=>?_⟩
     ·skip
      have c7:=h7
      (simp only [bsX] at c7)
      exact absurd c7 (by omega)
     ·skip
      have c7:=h7
      (simp only [bsX] at c7)
      refine ⟨fun h8=>?_,fun h8=>?_⟩
      ·skip
       have c8:=h8
       (simp only [bsX] at c8)
       exact absurd c8 (by omega)
      ·skip
       have c8:=h8
       (simp only [bsX] at c8)
       refine ⟨Nat,fun i=>⟨[(1,.own 1001 0),(56,Wm p.ns),(57,.i (p.ns.length:Int)),(58,.i (i:Int))],[(1001,.box [.s p.k,.s p.s,.s p.e,.i p.a,Wm p.ns] 33)]⟩,fun i=>i<=p.ns.length,fun i=>p.ns.length - i,0,Qxq _,?_,fun i hx1=>?_⟩
       ·skip
        repeat refine o10 ?_
        trivial
       refine ⟨fun h9=>?_,fun h9=>?_⟩
       ·skip
        have c9:=h9
        (simp only [bsX] at c9)
        have hi:i < p.ns.length:=by omega
        repeat refine o3 ?_
        refine clX (Wh (p:=p.ns.getD i []) (Xs h i)) ?_
        repeat refine o0 ?_
        refine knF ?_;refine ⟨[0,1,3,7,15,7,39,127,255,7,1023,2047,4095],by kernel_rfl,?_⟩
        repeat refine o37 ?_
        refine gx (fun hc=>(ZL (p:=p.ns.getD (i - 1) []) (q:=p.ns.getD i []))) (fun hk=>⟨hk,?_⟩)
        repeat refine o38 ?_
        refine ⟨fun h11=>?_,fun h11=>?_⟩
        ·skip
         have c11:=h11
         (simp only [bsX] at c11)
         exact absurd (c11).2 (by have h0:0 < i:=(by have:=(c11).1;omega);rw [QaZ (QcH h.ns h0 hi)];decide)
        ·skip
         have c11:=h11
         (simp only [bsX] at c11)
         repeat refine o4 ?_
         refine Qt (i+1) ?_
         repeat refine o10 ?_
         trivial
       ·skip
        have c9:=h9
        (simp only [bsX] at c9)
        repeat refine o0 ?_
        trivial
   ·skip
    have c5:=h5
    (simp only [bsX] at c5)
    repeat refine o22 ?_
    refine ⟨fun h12=>?_,fun h12=>?_⟩
    ·skip
     have c12:=h12
     (simp only [bsX] at c12)
     exact absurd c12 (by omega)
    ·skip
     have c12:=h12
     (simp only [bsX] at c12)
     refine ⟨fun h13=>?_,fun h13=>?_⟩
     ·skip
      have c13:=h13
      (simp only [bsX] at c13)
      exact absurd c13 (by omega)
     ·skip
      have c13:=h13
      (simp only [bsX] at c13)
      refine ⟨Nat,fun i=>⟨[(1,.own 1001 0),(56,Wm p.ns),(57,.i (p.ns.length:Int)),(58,.i (i:Int))],[(1001,.box [.s p.k,.s p.s,.s p.e,.i p.a,Wm p.ns] 33)]⟩,fun i=>i<=p.ns.length,fun i=>p.ns.length - i,0,Qxq _,?_,fun i hx1=>?_⟩
      ·skip
       repeat refine o10 ?_
       trivial
      refine ⟨fun h14=>?_,fun h14=>?_⟩
      ·skip
       have c14:=h14
       (simp only [bsX] at c14)
       have hi:i < p.ns.length:=by omega
       repeat refine o3 ?_
       refine clX (Wh (p:=p.ns.getD i []) (Xs h i)) ?_
       repeat refine o0 ?_
       refine knF ?_;refine ⟨[0,1,3,7,15,7,39,127,255,7,1023,2047,4095],by kernel_rfl,?_⟩
       repeat refine o37 ?_
       refine gx (fun hc=>(ZL (p:=p.ns.getD (i - 1) []) (q:=p.ns.getD i []))) (fun hk=>⟨hk,?_⟩)
       repeat refine o38 ?_
       refine ⟨fun h16=>?_,fun h16=>?_⟩
       ·skip
        have c16:=h16
        (simp only [bsX] at c16)
        exact absurd (c16).2 (by have h0:0 < i:=(by have:=(c16).1;omega);rw [QaZ (QcH h.ns h0 hi)];decide)
       ·skip
        have c16:=h16
        (simp only [bsX] at c16)
        repeat refine o4 ?_
        refine Qt (i+1) ?_
        repeat refine o10 ?_
        trivial
      ·skip
       have c14:=h14
       (simp only [bsX] at c14)
       repeat refine o0 ?_
       trivial
 ·skip
  have c2:=h2
  (simp only [bsX] at c2)
  refine ⟨fun h17=>?_,fun h17=>?_⟩
  ·skip
   have c17:=h17
   (simp only [bsX] at c17)
   have he:=h.e.resolve_left c17;refine clX (Qi8 he) ?_
   repeat refine o0 ?_
   refine ⟨fun h18=>?_,fun h18=>?_⟩
   ·skip
    (simp only [Int.reduceToNat,UInt8.reduceOfNat] at h18)
    have c18:=h18
    (simp only [bsX] at c18)
    repeat refine o0 ?_
    trivial
   ·skip
    (simp only [Int.reduceToNat,UInt8.reduceOfNat] at h18)
    have c18:=h18
    (simp only [bsX] at c18)
    repeat refine o22 ?_
    refine ⟨fun h19=>?_,fun h19=>?_⟩
    ·skip
     have c19:=h19
     (simp only [bsX] at c19)
     exact absurd c19 (by omega)
    ·skip
     have c19:=h19
     (simp only [bsX] at c19)
     refine ⟨fun h20=>?_,fun h20=>?_⟩
     ·skip
      have c20:=h20
      (simp only [bsX] at c20)
      exact absurd c20 (by omega)
     ·skip
      have c20:=h20
      (simp only [bsX] at c20)
      refine ⟨Nat,fun i=>⟨[(1,.own 1001 0),(56,Wm p.ns),(57,.i (p.ns.length:Int)),(58,.i (i:Int))],[(1001,.box [.s p.k,.s p.s,.s p.e,.i p.a,Wm p.ns] 33)]⟩,fun i=>i<=p.ns.length,fun i=>p.ns.length - i,0,Qxq _,?_,fun i hx1=>?_⟩
      ·skip
       repeat refine o10 ?_
       trivial
      refine ⟨fun h21=>?_,fun h21=>?_⟩
      ·skip
       have c21:=h21
       (simp only [bsX] at c21)
       have hi:i < p.ns.length:=by omega
       repeat refine o3 ?_
       refine clX (Wh (p:=p.ns.getD i []) (Xs h i)) ?_
       repeat refine o0 ?_
       refine knF ?_;refine ⟨[0,1,3,7,15,7,39,127,255,7,1023,2047,4095],by kernel_rfl,?_⟩
       repeat refine o37 ?_
       refine gx (fun hc=>(ZL (p:=p.ns.getD (i - 1) []) (q:=p.ns.getD i []))) (fun hk=>⟨hk,?_⟩)
       repeat refine o38 ?_
       refine ⟨fun h23=>?_,fun h23=>?_⟩
       ·skip
        have c23:=h23
        (simp only [bsX] at c23)
        exact absurd (c23).2 (by have h0:0 < i:=(by have:=(c23).1;omega);rw [QaZ (QcH h.ns h0 hi)];decide)
       ·skip
        have c23:=h23
        (simp only [bsX] at c23)
        repeat refine o4 ?_
        refine Qt (i+1) ?_
        repeat refine o10 ?_
        trivial
      ·skip
       have c21:=h21
       (simp only [bsX] at c21)
       repeat refine o0 ?_
       trivial
  ·skip
   have c17:=h17
   (simp only [bsX] at c17)
   repeat refine o22 ?_
   refine ⟨fun h24=>?_,fun h24=>?_⟩
   ·skip
    have c24:=h24
    (simp only [bsX] at c24)
    exact absurd c24 (by omega)
   ·skip
    have c24:=h24
    (simp only [bsX] at c24)
    refine ⟨fun h25=>?_,fun h25=>?_⟩
    ·skip
     have c25:=h25
     (simp only [bsX] at c25)
     exact absurd c25 (by omega)
    ·skip
     have c25:=h25
     (simp only [bsX] at c25)
     refine ⟨Nat,fun i=>⟨[(1,.own 1001 0),(56,Wm p.ns),(57,.i (p.ns.length:Int)),(58,.i (i:Int))],[(1001,.box [.s p.k,.s p.s,.s p.e,.i p.a,Wm p.ns] 33)]⟩,fun i=>i<=p.ns.length,fun i=>p.ns.length - i,0,Qxq _,?_,fun i hx1=>?_⟩
     ·skip
      repeat refine o10 ?_
      trivial
     refine ⟨fun h26=>?_,fun h26=>?_⟩
     ·skip
      have c26:=h26
      (simp only [bsX] at c26)
      have hi:i < p.ns.length:=by omega
      repeat refine o3 ?_
      refine clX (Wh (p:=p.ns.getD i []) (Xs h i)) ?_
      repeat refine o0 ?_
      refine knF ?_;refine ⟨[0,1,3,7,15,7,39,127,255,7,1023,2047,4095],by kernel_rfl,?_⟩
      repeat refine o37 ?_
      refine gx (fun hc=>(ZL (p:=p.ns.getD (i - 1) []) (q:=p.ns.getD i []))) (fun hk=>⟨hk,?_⟩)
      repeat refine o38 ?_
      refine ⟨fun h28=>?_,fun h28=>?_⟩
      ·skip
       have c28:=h28
       (simp only [bsX] at c28)
       exact absurd (c28).2 (by have h0:0 < i:=(by have:=(c28).1;omega);rw [QaZ (QcH h.ns h0 hi)];decide)
      ·skip
       have c28:=h28
       (simp only [bsX] at c28)
       repeat refine o4 ?_
       refine Qt (i+1) ?_
       repeat refine o10 ?_
       trivial
     ·skip
      have c26:=h26
      (simp only [bsX] at c26)
      repeat refine o0 ?_
      trivial
def Qq (ps:List PeerS) (k:List UInt8):Int:=if k∈ps.map (·.k) then ((ps.map (·.k)).idxOf k:Int) else -1
theorem QmU {ps:List PeerS} {k:List UInt8} {i:Nat} (hi:i < ps.length) (hb:∀ j,j < i->(ps.getD j Qa).k≠k) (h:(ps.getD i Qa).k=k):Qq ps k=(i:Int):=by
 have g:∀ j (hj:j < (ps.map (·.k)).length),(ps.map (·.k))[j]=(ps.getD j Qa).k:=fun j hj=>by
  rw [List.getElem_map,Qxo,Qxp (by simpa using hj)];rfl
 have hi2:i < (ps.map (·.k)).length:=by simpa using hi
 have hm:k∈ps.map (·.k):=by rw [<- h,<- g i hi2];exact List.getElem_mem hi2
 unfold Qq;rw [if_pos hm];have h1:=List.idxOf_lt_length_of_mem hm
 have h2:(ps.map (·.k)).idxOf k=i:=by
  rcases Nat.lt_trichotomy ((ps.map (·.k)).idxOf k) i with q | q | q
  ·exact absurd ((g _ h1).symm.trans (List.getElem_idxOf h1)) (hb _ q)
  ·exact q
  ·have:=List.not_of_lt_findIdx (p:=(· == k)) (xs:=List.map (fun x:PeerS=>x.k) ps) (i:=i) q;rw [g i hi2,h] at this;simp at this
 rw [h2]
theorem QmV {ps:List PeerS} {k:List UInt8} (hb:∀ j,j < ps.length->(ps.getD j Qa).k≠k):Qq ps k = -1:=by
 unfold Qq;rw [if_neg];intro h;obtain ⟨p,hp,e⟩:=List.mem_map.1 h;obtain ⟨i,hi,e2⟩:=List.mem_iff_getElem.1 hp;refine hb i hi ?_;rw [Qxo,Qxp hi,Qxz,e2];exact e
theorem Qrp {p:PeerS} {k:List UInt8}:Cf Tryz.prog 129 [] [QmM p,.pp [.s k] 0] [] (.b (decide (p.k=k))):=by
 refine Qr {} Tryz.func129 Tryz.ntmps129 ?_
 repeat refine o0 ?_
 trivial
theorem Qrq {ps:List PeerS} {k:List UInt8} (hl:ps.length<=1000):Cf Tryz.prog 128 [] [Ws ps,.fn 129 [.pp [.s k] 0]] [] (.i (Qq ps k)):=by
 refine Qr {} Tryz.func128 Tryz.ntmps128 ?_;refine ⟨Nat,fun i=>⟨[(0,Ws ps),(1,.fn 129 [.pp [.s k] 0]),(7,.i (ps.length:Int)),(8,.i (i:Int))],[]⟩,fun i=>i<=ps.length /\ ∀ j,j < i->(ps.getD j Qa).k≠k,fun i=>ps.length - i,0,⟨Qxq _,fun i hi=>absurd hi (Nat.not_lt_zero _)⟩,?_,fun i hx1=>?_⟩
 ·skip
  repeat refine o10 ?_
  trivial
 refine ⟨fun h1=>?_,fun h1=>?_⟩
 ·skip
  have c1:=h1
  (simp only [bsX] at c1)
  have hk:i < ps.length:=by omega
  repeat refine o3 ?_
  refine clX (Qrp (p:=ps.getD i Qa) (k:=k)) ?_
  repeat refine o10 ?_
  refine ⟨fun h2=>?_,fun h2=>?_⟩
  ·skip
   have c2:=h2
   (simp only [bsX] at c2)
   have hO:=QmU hk hx1.2 c2
   repeat refine o35 ?_
   trivial
  ·skip
   have c2:=h2
   (simp only [bsX] at c2)
   repeat refine o4 ?_
   have hnx:i+1<=ps.length /\ ∀ j,j < i+1->(ps.getD j Qa).k≠k:=⟨hk,fun j hj=>(Nat.lt_or_ge j i).elim (hx1.2 j) fun q e=>c2 (by rw [<- e,show j=i from by omega])⟩;refine Qt (i+1) ?_
   repeat refine o10 ?_
   trivial
 ·skip
  have c1:=h1
  (simp only [bsX] at c1)
  have hO:=QmV (ps:=ps) (k:=k) fun j hj=>hx1.2 j (by omega)
  repeat refine o35 ?_
  trivial
theorem QcI {c:ConfS} {k:List UInt8} (hl:c.ps.length<=1000):Cf Tryz.prog 82 [] [Qn c,.s k] [] (.tup [.i (if Qq c.ps k < 0 then 0 else Qq c.ps k),.i (if Qq c.ps k < 0 then 5 else 0)]):=by
 refine Qr {} Tryz.func82 Tryz.ntmps82 ?_;refine clX (Qrq (ps:=c.ps) (k:=k) hl) ?_
 repeat refine o10 ?_
 refine ⟨fun h1=>?_,fun h1=>?_⟩
 ·skip
  have c1:=h1
  (simp only [bsX] at c1)
  repeat refine o4 ?_
  trivial
 ·skip
  have c1:=h1
  (simp only [bsX] at c1)
  repeat refine o4 ?_
  trivial
abbrev pA (c:ConfS) (i:Nat):PeerS:=c.ps.getD i Qa
def al (c:ConfS) (i:Nat):List (List Bool):=(c.ps.take i).flatMap (·.ns)
theorem Z0 {c:ConfS} {i:Nat} (hi:i < c.ps.length):pA c i∈c.ps:=by
 show c.ps.getD i Qa∈c.ps;rw [Qxo,Qxp hi];exact List.getElem_mem hi
theorem QuE {c:ConfS} {i:Nat} (hi:i < c.ps.length):c.ps.take (i+1)=c.ps.take i++[pA c i]:=by
 show _=_++[c.ps.getD i Qa];rw [Qxs hi,Qxo,Qxp hi];rfl
theorem QcJ {c:ConfS} {i:Nat} (hi:i < c.ps.length):al c (i+1)=al c i++(pA c i).ns:=by
 show (c.ps.take (i+1)).flatMap (·.ns)=_;rw [QuE hi,Qxy];simp [al]
theorem QwO {c:ConfS} {i:Nat} (h:(c.ps.flatMap (·.ns)).Nodup):(al c i).Nodup:=by
 have e:c.ps.flatMap (·.ns)=al c i++(c.ps.drop i).flatMap (·.ns):=by unfold al;rw [<- Qxy,Qxx]
 rw [e] at h;exact (Qxu.1 h).1
theorem Qk3 {c:ConfS} (h:ConfOk c):∀ i,i<=c.ps.length->(al c i).length<=8 * i
 | 0,_=>Nat.le_refl _
 | i+1,hi=>by
  rw [QcJ (by omega),Qxt];have:=Qk3 h i (by omega);have:=(h.ps _ (Z0 (c:=c) (i:=i) (by omega))).1.nl;omega
theorem QgY {l:List (List Bool)} {k:Nat} (hk:k < l.length):l.take (k+1)=l.take k++[l.getD k []]:=by
 rw [Qxs hk,Qxo,Qxp hk];rfl
theorem Qrr {c:ConfS} (h:ConfOk c) {i k:Nat} (hi:i < c.ps.length) (hk:k < (pA c i).ns.length):(pA c i).ns.getD k [] ∉ al c i++(pA c i).ns.take k:=by
 have h1:=QwO (c:=c) (i:=i+1) h.nd;rw [QcJ hi,<- Qxx (k+1) (pA c i).ns,QgY hk,<- Qxr,<- Qxr] at h1;have h2:=(Qxu.1 h1).1;intro hm;exact (Qxu.1 h2).2.2 _ hm _ (List.mem_singleton.2 rfl) rfl
theorem QmW {c:ConfS} (h:ConfOk c) {i:Nat} (hi:i < c.ps.length):¬ ((0 < (i:Int)/\(Op.bytesLess (c.ps.getD (i:Int).toNat Qa).k (c.ps.getD ((i:Int) - 1).toNat Qa).k=true\/(c.ps.getD (i:Int).toNat Qa).k=(c.ps.getD ((i:Int) - 1).toNat Qa).k))\/(c.ps.getD (i:Int).toNat Qa).k=c.k):=by
 rintro (⟨h0,k⟩ | k)
 ·have e:((i:Int) - 1).toNat=i - 1:=by omega
  rw [e,Int.toNat_natCast,Qxo,Qxo,Qxp hi,Qxp (by omega),Qxz,Qxz] at k;have q:=Qxv.1 h.inc (i - 1) i (by omega) hi (by omega);rcases k with k | k
  ·have:=q.1;rw [k] at this;cases this
  ·exact q.2 k
 ·exact (h.ps _ (Z0 hi)).2 k
theorem Qf {c:ConfS} (h:ConfOk c):Cf Tryz.prog 21 [] [Qn c] [] (.i 0):=by
 have hpo:=h.port;have hpl:=h.pl;refine QJ {nl:=[(4,36,2)]} Tryz.func21 Tryz.ntmps21 ?_;refine ⟨fun h1=>?_,fun h1=>?_⟩
 ·skip
  have c1:=h1
  (simp only [bsX] at c1)
  have hk:=h.k.resolve_left c1;refine clX (Qem hk) ?_
  repeat refine o0 ?_
  refine knF ?_
  repeat refine o22 ?_
  refine ⟨fun h3=>?_,fun h3=>?_⟩
  ·skip
   have c3:=h3
   (simp only [bsX] at c3)
   exact absurd c3 (by omega)
  ·skip
   have c3:=h3
   (simp only [bsX] at c3)
   refine ⟨fun h4=>?_,fun h4=>?_⟩
   ·skip
    have c4:=h4
    (simp only [bsX] at c4)
    exact absurd c4 (by omega)
   ·skip
    have c4:=h4
    (simp only [bsX] at c4)
    refine ⟨Nat,fun i=>⟨[(1,.own 1001 0),(4,.osl 61 (al c i).length),(32,Ws c.ps),(33,.i (c.ps.length:Int)),(34,.i (i:Int))],[(1001,.box [.s c.k,.i c.port,Ws c.ps] 25),(61,.rz (al c i).length 2 (fun a b=>Qz ((al c i).getD a []) b) 36 0)]⟩,fun i=>i<=c.ps.length,fun i=>c.ps.length - i,0,Qxq _,?_,fun i hx1=>?_⟩
    ·skip
     repeat refine o1 ?_
     trivial
    refine ⟨fun h5=>?_,fun h5=>?_⟩
    ·skip
     have c5:=h5
     (simp only [bsX] at c5)
     have hi:i < c.ps.length:=by omega
     have hp:=h.ps _ (Z0 hi);have hal:=Qk3 h i (by omega);have hnl:=hp.1.nl;have hanx:=QcJ hi;have e0:al c i++(pA c i).ns.take 0=al c i:=by simp
     repeat refine o3 ?_
     refine clX (Qfw (p:=pA c i) hp.1) ?_
     repeat refine o2 ?_
     refine knF ?_;refine ⟨[0,1,3,7,15,7,39,7,135,487,999,2023,4095,8191,16383,32767,65535,32767,163839,524287,1048575],by kernel_rfl,?_⟩
     repeat refine o72 ?_
     refine ⟨fun h7=>?_,fun h7=>?_⟩
     ·skip
      have c7:=h7
      (simp only [bsX] at c7)
      exact absurd c7 (QmW h hi)
     ·skip
      have c7:=h7
      (simp only [bsX] at c7)
      refine ⟨Nat,fun k=>⟨[(1,.own 1001 0),(4,.osl 61 (al c i++(pA c i).ns.take k).length),(5,.i (i:Int)),(32,Ws c.ps),(33,.i (c.ps.length:Int)),(34,.i (i:Int)),(66,Wm (pA c i).ns),(67,.i ((pA c i).ns.length:Int)),(68,.i (k:Int))],[(1001,.box [.s c.k,.i c.port,Ws c.ps] 25),(61,.rz (al c i++(pA c i).ns.take k).length 2 (fun a b=>Qz ((al c i++(pA c i).ns.take k).getD a []) b) 36 0)]⟩,fun k=>k<=(pA c i).ns.length,fun k=>(pA c i).ns.length - k,0,Qxq _,?_,fun k hx2=>?_⟩
      ·skip
       repeat refine o73 ?_
       trivial
      refine ⟨fun h8=>?_,fun h8=>?_⟩
      ·skip
       have c8:=h8
       (simp only [bsX] at c8)
       have hk:k < (pA c i).ns.length:=by omega
       have h32:((pA c i).ns.getD k []).length<=32:=Xs hp.1 k;have hle:(al c i++(pA c i).ns.take k).length<=1000:=by rw [Qxt,List.length_take];omega
       have hle2:(al c i).length+min k (pA c i).ns.length<=1000:=by omega
       have hM:al c i++(pA c i).ns.take (k+1)=(al c i++(pA c i).ns.take k)++[(pA c i).ns.getD k []]:=by rw [QgY hk,Qxr]
       have hl1:(al c i++(pA c i).ns.take k).length+1=(al c i++(pA c i).ns.take (k+1)).length:=by rw [hM];simp [Nat.add_assoc]
       repeat refine o3 ?_
       refine clX (Jt (ns:=al c i++(pA c i).ns.take k) (n:=(pA c i).ns.getD k []) hle h32) ?_
       repeat refine o1 ?_
       refine ⟨fun h9=>?_,fun h9=>?_⟩
       ·skip
        have c9:=h9
        (simp only [bsX] at c9)
        exact absurd c9 (Qrr h hi hk)
       ·skip
        have c9:=h9
        (simp only [bsX] at c9)
        repeat refine o74 ?_
        refine Qt (k+1) ?_
        repeat refine o75 ?_
        trivial
      ·skip
       have c8:=h8
       (simp only [bsX] at c8)
       obtain rfl:k=(pA c i).ns.length:=by omega
       have hA:al c i++(pA c i).ns.take (pA c i).ns.length=al c (i+1):=by rw [List.take_length,hanx]
       repeat refine o4 ?_
       refine Qt (i+1) ?_
       repeat refine o76 ?_
       trivial
    ·skip
     have c5:=h5
     (simp only [bsX] at c5)
     repeat refine o0 ?_
     trivial
 ·skip
  have c1:=h1
  (simp only [bsX] at c1)
  repeat refine o22 ?_
  refine ⟨fun h10=>?_,fun h10=>?_⟩
  ·skip
   have c10:=h10
   (simp only [bsX] at c10)
   exact absurd c10 (by omega)
  ·skip
   have c10:=h10
   (simp only [bsX] at c10)
   refine ⟨fun h11=>?_,fun h11=>?_⟩
   ·skip
    have c11:=h11
    (simp only [bsX] at c11)
    exact absurd c11 (by omega)
   ·skip
    have c11:=h11
    (simp only [bsX] at c11)
    refine ⟨Nat,fun i=>⟨[(1,.own 1001 0),(4,.osl 61 (al c i).length),(32,Ws c.ps),(33,.i (c.ps.length:Int)),(34,.i (i:Int))],[(1001,.box [.s c.k,.i c.port,Ws c.ps] 25),(61,.rz (al c i).length 2 (fun a b=>Qz ((al c i).getD a []) b) 36 0)]⟩,fun i=>i<=c.ps.length,fun i=>c.ps.length - i,0,Qxq _,?_,fun i hx1=>?_⟩
    ·skip
     repeat refine o1 ?_
     trivial
    refine ⟨fun h12=>?_,fun h12=>?_⟩
    ·skip
     have c12:=h12
     (simp only [bsX] at c12)
     have hi:i < c.ps.length:=by omega
     have hp:=h.ps _ (Z0 hi);have hal:=Qk3 h i (by omega);have hnl:=hp.1.nl;have hanx:=QcJ hi;have e0:al c i++(pA c i).ns.take 0=al c i:=by simp
     repeat refine o3 ?_
     refine clX (Qfw (p:=pA c i) hp.1) ?_
     repeat refine o2 ?_
     refine knF ?_;refine ⟨[0,1,3,7,15,7,39,7,135,487,999,2023,4095,8191,16383,32767,65535,32767,163839,524287,1048575],by kernel_rfl,?_⟩
     repeat refine o72 ?_
     refine ⟨fun h14=>?_,fun h14=>?_⟩
     ·skip
      have c14:=h14
      (simp only [bsX] at c14)
      exact absurd c14 (QmW h hi)
     ·skip
      have c14:=h14
      (simp only [bsX] at c14)
      refine ⟨Nat,fun k=>⟨[(1,.own 1001 0),(4,.osl 61 (al c i++(pA c i).ns.take k).length),(5,.i (i:Int)),(32,Ws c.ps),(33,.i (c.ps.length:Int)),(34,.i (i:Int)),(66,Wm (pA c i).ns),(67,.i ((pA c i).ns.length:Int)),(68,.i (k:Int))],[(1001,.box [.s c.k,.i c.port,Ws c.ps] 25),(61,.rz (al c i++(pA c i).ns.take k).length 2 (fun a b=>Qz ((al c i++(pA c i).ns.take k).getD a []) b) 36 0)]⟩,fun k=>k<=(pA c i).ns.length,fun k=>(pA c i).ns.length - k,0,Qxq _,?_,fun k hx2=>?_⟩
      ·skip
       repeat refine o73 ?_
       trivial
      refine ⟨fun h15=>?_,fun h15=>?_⟩
      ·skip
       have c15:=h15
       (simp only [bsX] at c15)
       have hk:k < (pA c i).ns.length:=by omega
       have h32:((pA c i).ns.getD k []).length<=32:=Xs hp.1 k;have hle:(al c i++(pA c i).ns.take k).length<=1000:=by rw [Qxt,List.length_take];omega
       have hle2:(al c i).length+min k (pA c i).ns.length<=1000:=by omega
       have hM:al c i++(pA c i).ns.take (k+1)=(al c i++(pA c i).ns.take k)++[(pA c i).ns.getD k []]:=by rw [QgY hk,Qxr]
       have hl1:(al c i++(pA c i).ns.take k).length+1=(al c i++(pA c i).ns.take (k+1)).length:=by rw [hM];simp [Nat.add_assoc]
       repeat refine o3 ?_
       refine clX (Jt (ns:=al c i++(pA c i).ns.take k) (n:=(pA c i).ns.getD k []) hle h32) ?_
       repeat refine o1 ?_
       refine ⟨fun h16=>?_,fun h16=>?_⟩
       ·skip
        have c16:=h16
        (simp only [bsX] at c16)
        exact absurd c16 (Qrr h hi hk)
       ·skip
        have c16:=h16
        (simp only [bsX] at c16)
        repeat refine o74 ?_
        refine Qt (k+1) ?_
        repeat refine o75 ?_
        trivial
      ·skip
       have c15:=h15
       (simp only [bsX] at c15)
       obtain rfl:k=(pA c i).ns.length:=by omega
       have hA:al c i++(pA c i).ns.take (pA c i).ns.length=al c (i+1):=by rw [List.take_length,hanx]
       repeat refine o4 ?_
       refine Qt (i+1) ?_
       repeat refine o76 ?_
       trivial
    ·skip
     have c12:=h12
     (simp only [bsX] at c12)
     repeat refine o0 ?_
     trivial
end
end Go.Proofs.YtcebndkiagbddaaGreatDoor
