/- A part of the proof: contracts of functions and what they stand on. Written shorter and merged by a program (pack.py). -/
import Derived.Test.YtcebndkiagbddaaGreatDoorK23
set_option linter.unusedVariables false
set_option linter.unusedSimpArgs false
set_option maxRecDepth 100000
set_option maxHeartbeats 4000000
open List renaming length_append -> Qxo, getD_eq_getElem?_getD -> Qxp, getD_cons_succ -> Qxu
open Bool renaming false_eq_true -> Qxq, or_eq_true -> Qxr, not_true -> Qxs
open Nat renaming le_of_ble_eq_true -> Qxt
namespace Go.Proofs.YtcebndkiagbddaaGreatDoor
section
open Go.RowKit
def gM:List (List Nd)->Nat->List Nd
 | [],_=>[]
 | x::_,0=>x
 | _::l,j+1=>gM l j
def gK:List (Option (List PV))->Nat->Option (List PV)
 | [],_=>none
 | x::_,0=>x
 | _::l,j+1=>gK l j
theorem QgD {x:Nd} {M R:List Nd} {s:Nat} (hs:s=M.length+1):∀ i,i < s - 1 -> ∀ j,j < 4->ndF (x::(M++R)) (1+i) j=ndF M i j:=by
 intro i hi j hj;show ndC ((x::(M++R)).getD (1+i) default) j=ndC (M.getD i default) j;rw [Nat.add_comm 1 i,Qxu,Qxp,List.getElem?_append_left (by omega),<- Qxp]
theorem QgE {x:Nd} {M R:List Nd} {s:Nat} (hs:s=M.length+1):∀ i,i < (M++R).length+1 - s -> ∀ j,j < 4->ndF (x::(M++R)) (s+i) j=ndF R i j:=by
 intro i hi j hj;show ndC ((x::(M++R)).getD (s+i) default) j=ndC (R.getD i default) j;rw [hs,show M.length+1+i=(M.length+i)+1 from by omega,Qxu,Qxp,List.getElem?_append_right (by omega),<- Qxp,show M.length+i - M.length=i from by omega]
theorem Qmz:∀ {l:List (List Nd)} {j:Nat},0 < (gM l j).length->j < l.length
 | [],j,h=>by unfold gM at h;simp at h
 | x::l,0,_=>by simp
 | x::l,j+1,h=>by have:=Qmz (l:=l) (j:=j) h;simp;omega
theorem QmA {A:List Nd} {j:Nat} (hj:j<=1) (h:¬ (0:Int) < ((gM [A] j).length:Int)) (hA:0 < A.length):j=1:=by
 rcases (by omega:j=0\/j=1) with rfl | rfl
 ·exact absurd (show (0:Int) < (A.length:Int) by omega) h
 ·rfl
theorem Quc {A B:List Nd} {j:Nat} (hj:j<=2) (h:¬ (0:Int) < ((gM [A++B,B] j).length:Int)) (hA:0 < A.length) (hB:0 < B.length):j=2:=by
 rcases (by omega:j=0\/j=1\/j=2) with rfl | rfl | rfl
 ·exact absurd (show (0:Int) < ((A++B).length:Int) by rw [Qxo];omega) h
 ·exact absurd (show (0:Int) < (B.length:Int) by omega) h
 ·rfl
theorem QkI {p:List Bool} {o:List UInt8} {R:List Nd} {s:Nat} (hp:p.length<=32) (hs:s=([]:List Nd).length+1) (ho:o≠[]) (hn:(([]:List Nd)++R).length+1<=1000000):Cf Tryz.prog 102 [] [Qj (⟨p,o,s⟩::(([]:List Nd)++R))] [] (.tup [Yq p o .nil .nil,Qj R,.b true]):=by
 have e0:(((⟨p,o,s⟩:Nd)::(([]:List Nd)++R)).getD 0 default).s=s:=rfl;have e1:((⟨p,o,s⟩:Nd)::(([]:List Nd)++R)).length=(([]:List Nd)++R).length+1:=rfl;have e2:(([]:List Nd)++R).length=([]:List Nd).length+R.length:=Qxo;have e3:([]:List Nd).length=0:=rfl;refine QJ {} Tryz.func102 Tryz.ntmps102 ?_
 repeat refine o42 ?_
 refine gx2 (Wh hp) (fun hk=>⟨fun _=>hk,?_⟩)
 repeat refine o34 ?_
 refine ⟨fun h1=>?_,fun h1=>?_⟩
 ·skip
  (simp only [Int.reduceToNat,UInt8.reduceOfNat] at h1)
  have c1:=h1
  (simp only [bsX] at c1)
  exfalso;simp only [Qxr,decide_eq_true_eq,decide_true,Qxs,Qxq,or_false] at h1;omega
 ·skip
  (simp only [Int.reduceToNat,UInt8.reduceOfNat] at h1)
  have c1:=h1
  (simp only [bsX] at c1)
  refine ⟨[0,1,3,7,0,16,48,112,255,511,1023],by kernel_rfl,?_⟩
  repeat refine o4 ?_
  refine ⟨[0,0,2,6,14,31,0,0,128,384,896,1984,63,8191],by kernel_rfl,?_⟩
  repeat refine o43 ?_
  refine ⟨Nat,fun j=>⟨[(5,.own 1048 0),(6,Qj (gM [] j)),(7,Qj R)],[(1048,.box [.u32 (adr p),.i (p.length:Int),.s o,.rp (gK [none] j),.rp (gK [none] j)] 109)]⟩,fun j=>j<=0,fun j=>0 - j,0,by omega,?_,fun j hx1=>?_⟩
  ·skip
   repeat (refine Ob.mk ?_ ?_;focus (first | (show s - 1=([]:List Nd).length;omega) | (exact QgD hs) | (exact QgE hs) | (exact Eq.refl _) | (simp [SrcE.len];omega)))
   trivial
  refine ⟨fun h2=>?_,fun h2=>?_⟩
  ·skip
   have c2:=h2
   (simp only [bsX] at c2)
   exact absurd h2 (by simp [gM])
  ·skip
   have c2:=h2
   (simp only [bsX] at c2)
   have hj:j=0:=Nat.le_zero.1 hx1;subst hj
   repeat refine o44 ?_
   refine ⟨fun h3=>?_,fun h3=>?_⟩
   ·skip
    have c3:=h3
    (simp only [bsX] at c3)
    exact absurd h3 (by simp [gK,Tr.c,ho])
   ·skip
    have c3:=h3
    (simp only [bsX] at c3)
    repeat refine o2 ?_
    trivial
theorem QkJ {p:List Bool} {o:List UInt8} {R:List Nd} {s:Nat} (hp:p.length<=32) {xp0:List Bool} {xo0:List UInt8} {xl0 xr0:Tr} {A:List Nd} (hp0:xp0.length<=32) (hb0:p++[false] <+: xp0) (hL0:0 < A.length) (g0:Cf Tryz.prog 102 [] [Qj (A)] [] (.tup [Yq xp0 xo0 xl0 xr0,Qj ([]:List Nd),.b true])) (hs:s=(A).length+1) (ho:o≠[]) (hn:((A)++R).length+1<=1000000):Cf Tryz.prog 102 [] [Qj (⟨p,o,s⟩::((A)++R))] [] (.tup [Yq p o (Tr.node xp0 xo0 xl0 xr0) .nil,Qj R,.b true]):=by
 have e0:(((⟨p,o,s⟩:Nd)::((A)++R)).getD 0 default).s=s:=rfl;have e1:((⟨p,o,s⟩:Nd)::((A)++R)).length=((A)++R).length+1:=rfl;have e2:((A)++R).length=(A).length+R.length:=Qxo;have hl:p.length < 32:=by have:=hb0.length_le;simp at this;omega
 refine QJ {} Tryz.func102 Tryz.ntmps102 ?_
 repeat refine o42 ?_
 refine gx2 (Wh hp) (fun hk=>⟨fun _=>hk,?_⟩)
 repeat refine o34 ?_
 refine ⟨fun h1=>?_,fun h1=>?_⟩
 ·skip
  (simp only [Int.reduceToNat,UInt8.reduceOfNat] at h1)
  have c1:=h1
  (simp only [bsX] at c1)
  exfalso;simp only [Qxr,decide_eq_true_eq,decide_true,Qxs,Qxq,or_false] at h1;omega
 ·skip
  (simp only [Int.reduceToNat,UInt8.reduceOfNat] at h1)
  have c1:=h1
  (simp only [bsX] at c1)
  refine ⟨[0,1,3,7,0,16,48,112,255,511,1023],by kernel_rfl,?_⟩
  repeat refine o4 ?_
  refine ⟨[0,0,2,6,14,31,0,0,128,384,896,1984,63,8191],by kernel_rfl,?_⟩
  repeat refine o43 ?_
  refine ⟨Nat,fun j=>⟨[(5,.own 1048 0),(6,Qj (gM [(A)] j)),(7,Qj R)],[(1048,.box [.u32 (adr p),.i (p.length:Int),.s o,.rp (gK [none,(Tr.node xp0 xo0 xl0 xr0).c] j),.rp (gK [none,none] j)] 109)]⟩,fun j=>j<=1,fun j=>1 - j,0,by omega,?_,fun j hx1=>?_⟩
  ·skip
   repeat refine o66 ?_
   trivial
  refine ⟨fun h2=>?_,fun h2=>?_⟩
  ·skip
   have c2:=h2
   (simp only [bsX] at c2)
   have hj:j < 1:=Qmz (l:=[(A)]) (by omega);rcases (by omega:j=0) with rfl
   ·skip
    refine clX g0 ?_
    repeat refine o2 ?_
    refine ⟨[0,1,3,7,15,31,63,7,135,391,903,2047,4095,8191],by kernel_rfl,?_⟩
    repeat refine o11 ?_
    refine gx2 (QaQ hp hp0 hb0) (fun hk=>⟨fun _=>hk,?_⟩)
    repeat refine o11 ?_
    refine ⟨fun h3=>?_,fun h3=>?_⟩
    ·skip
     have c3:=h3
     (simp only [bsX] at c3)
     exact absurd (show false=true from h3) (by decide)
    ·skip
     have c3:=h3
     (simp only [bsX] at c3)
     refine ⟨[0,1,3,7,0,16,48,112,255,511],by kernel_rfl,?_⟩;refine clX (Zg hl (Yw hb0)) ?_
     repeat refine o45 ?_
     refine ⟨fun h4=>?_,fun h4=>?_⟩
     ·skip
      have c4:=h4
      (simp only [bsX] at c4)
      exact absurd (show false=true from h4) (by decide)
     ·skip
      have c4:=h4
      (simp only [bsX] at c4)
      repeat refine o24 ?_
      refine ⟨0+1,(by assumption),(by assumption),?_⟩
      repeat refine o2 ?_
      trivial
  ·skip
   have c2:=h2
   (simp only [bsX] at c2)
   have hj:j=1:=QmA hx1 c2 hL0;subst hj
   repeat refine o44 ?_
   refine ⟨fun h5=>?_,fun h5=>?_⟩
   ·skip
    have c5:=h5
    (simp only [bsX] at c5)
    exact absurd h5 (by simp [gK,Tr.c,ho])
   ·skip
    have c5:=h5
    (simp only [bsX] at c5)
    repeat refine o2 ?_
    trivial
theorem QkK {p:List Bool} {o:List UInt8} {R:List Nd} {s:Nat} (hp:p.length<=32) {xp0:List Bool} {xo0:List UInt8} {xl0 xr0:Tr} {A:List Nd} (hp0:xp0.length<=32) (hb0:p++[true] <+: xp0) (hL0:0 < A.length) (g0:Cf Tryz.prog 102 [] [Qj (A)] [] (.tup [Yq xp0 xo0 xl0 xr0,Qj ([]:List Nd),.b true])) (hs:s=(A).length+1) (ho:o≠[]) (hn:((A)++R).length+1<=1000000):Cf Tryz.prog 102 [] [Qj (⟨p,o,s⟩::((A)++R))] [] (.tup [Yq p o .nil (Tr.node xp0 xo0 xl0 xr0),Qj R,.b true]):=by
 have e0:(((⟨p,o,s⟩:Nd)::((A)++R)).getD 0 default).s=s:=rfl;have e1:((⟨p,o,s⟩:Nd)::((A)++R)).length=((A)++R).length+1:=rfl;have e2:((A)++R).length=(A).length+R.length:=Qxo;have hl:p.length < 32:=by have:=hb0.length_le;simp at this;omega
 refine QJ {} Tryz.func102 Tryz.ntmps102 ?_
 repeat refine o42 ?_
 refine gx2 (Wh hp) (fun hk=>⟨fun _=>hk,?_⟩)
 repeat refine o34 ?_
 refine ⟨fun h1=>?_,fun h1=>?_⟩
 ·skip
  (simp only [Int.reduceToNat,UInt8.reduceOfNat] at h1)
  have c1:=h1
  (simp only [bsX] at c1)
  exfalso;simp only [Qxr,decide_eq_true_eq,decide_true,Qxs,Qxq,or_false] at h1;omega
 ·skip
  (simp only [Int.reduceToNat,UInt8.reduceOfNat] at h1)
  have c1:=h1
  (simp only [bsX] at c1)
  refine ⟨[0,1,3,7,0,16,48,112,255,511,1023],by kernel_rfl,?_⟩
  repeat refine o4 ?_
  refine ⟨[0,0,2,6,14,31,0,0,128,384,896,1984,63,8191],by kernel_rfl,?_⟩
  repeat refine o43 ?_
  refine ⟨Nat,fun j=>⟨[(5,.own 1048 0),(6,Qj (gM [(A)] j)),(7,Qj R)],[(1048,.box [.u32 (adr p),.i (p.length:Int),.s o,.rp (gK [none,none] j),.rp (gK [none,(Tr.node xp0 xo0 xl0 xr0).c] j)] 109)]⟩,fun j=>j<=1,fun j=>1 - j,0,by omega,?_,fun j hx1=>?_⟩
  ·skip
   repeat refine o66 ?_
   trivial
  refine ⟨fun h2=>?_,fun h2=>?_⟩
  ·skip
   have c2:=h2
   (simp only [bsX] at c2)
   have hj:j < 1:=Qmz (l:=[(A)]) (by omega);rcases (by omega:j=0) with rfl
   ·skip
    refine clX g0 ?_
    repeat refine o2 ?_
    refine ⟨[0,1,3,7,15,31,63,7,135,391,903,2047,4095,8191],by kernel_rfl,?_⟩
    repeat refine o11 ?_
    refine gx2 (QaQ hp hp0 hb0) (fun hk=>⟨fun _=>hk,?_⟩)
    repeat refine o11 ?_
    refine ⟨fun h3=>?_,fun h3=>?_⟩
    ·skip
     have c3:=h3
     (simp only [bsX] at c3)
     exact absurd (show false=true from h3) (by decide)
    ·skip
     have c3:=h3
     (simp only [bsX] at c3)
     refine ⟨[0,1,3,7,0,16,48,112,255,511],by kernel_rfl,?_⟩;refine clX (Zg hl (Yw hb0)) ?_
     repeat refine o45 ?_
     refine ⟨fun h4=>?_,fun h4=>?_⟩
     ·skip
      have c4:=h4
      (simp only [bsX] at c4)
      exact absurd (show false=true from h4) (by decide)
     ·skip
      have c4:=h4
      (simp only [bsX] at c4)
      repeat refine o24 ?_
      refine ⟨0+1,(by assumption),(by assumption),?_⟩
      repeat refine o2 ?_
      trivial
  ·skip
   have c2:=h2
   (simp only [bsX] at c2)
   have hj:j=1:=QmA hx1 c2 hL0;subst hj
   repeat refine o44 ?_
   refine ⟨fun h5=>?_,fun h5=>?_⟩
   ·skip
    have c5:=h5
    (simp only [bsX] at c5)
    exact absurd h5 (by simp [gK,Tr.c,ho])
   ·skip
    have c5:=h5
    (simp only [bsX] at c5)
    repeat refine o2 ?_
    trivial
theorem QkL {p:List Bool} {o:List UInt8} {R:List Nd} {s:Nat} (hp:p.length<=32) {xp0:List Bool} {xo0:List UInt8} {xl0 xr0:Tr} {A:List Nd} (hp0:xp0.length<=32) (hb0:p++[false] <+: xp0) (hL0:0 < A.length) {xp1:List Bool} {xo1:List UInt8} {xl1 xr1:Tr} {B:List Nd} (hp1:xp1.length<=32) (hb1:p++[true] <+: xp1) (hL1:0 < B.length) (g0:Cf Tryz.prog 102 [] [Qj (A++B)] [] (.tup [Yq xp0 xo0 xl0 xr0,Qj (B),.b true])) (g1:Cf Tryz.prog 102 [] [Qj (B)] [] (.tup [Yq xp1 xo1 xl1 xr1,Qj ([]:List Nd),.b true])) (hs:s=(A++B).length+1) (hn:((A++B)++R).length+1<=1000000):Cf Tryz.prog 102 [] [Qj (⟨p,o,s⟩::((A++B)++R))] [] (.tup [Yq p o (Tr.node xp0 xo0 xl0 xr0) (Tr.node xp1 xo1 xl1 xr1),Qj R,.b true]):=by
 have e0:(((⟨p,o,s⟩:Nd)::((A++B)++R)).getD 0 default).s=s:=rfl;have e1:((⟨p,o,s⟩:Nd)::((A++B)++R)).length=((A++B)++R).length+1:=rfl;have e2:((A++B)++R).length=(A++B).length+R.length:=Qxo;have e3:(A++B).length=A.length+B.length:=Qxo;have hl:p.length < 32:=by have:=hb0.length_le;simp at this;omega
 refine QJ {} Tryz.func102 Tryz.ntmps102 ?_
 repeat refine o42 ?_
 refine gx2 (Wh hp) (fun hk=>⟨fun _=>hk,?_⟩)
 repeat refine o34 ?_
 refine ⟨fun h1=>?_,fun h1=>?_⟩
 ·skip
  (simp only [Int.reduceToNat,UInt8.reduceOfNat] at h1)
  have c1:=h1
  (simp only [bsX] at c1)
  exfalso;simp only [Qxr,decide_eq_true_eq,decide_true,Qxs,Qxq,or_false] at h1;omega
 ·skip
  (simp only [Int.reduceToNat,UInt8.reduceOfNat] at h1)
  have c1:=h1
  (simp only [bsX] at c1)
  refine ⟨[0,1,3,7,0,16,48,112,255,511,1023],by kernel_rfl,?_⟩
  repeat refine o4 ?_
  refine ⟨[0,0,2,6,14,31,0,0,128,384,896,1984,63,8191],by kernel_rfl,?_⟩
  repeat refine o43 ?_
  refine ⟨Nat,fun j=>⟨[(5,.own 1048 0),(6,Qj (gM [(A++B),(B)] j)),(7,Qj R)],[(1048,.box [.u32 (adr p),.i (p.length:Int),.s o,.rp (gK [none,(Tr.node xp0 xo0 xl0 xr0).c,(Tr.node xp0 xo0 xl0 xr0).c] j),.rp (gK [none,none,(Tr.node xp1 xo1 xl1 xr1).c] j)] 109)]⟩,fun j=>j<=2,fun j=>2 - j,0,by omega,?_,fun j hx1=>?_⟩
  ·skip
   repeat (refine Ob.mk ?_ ?_;focus (first | (show s - 1=(A++B).length;omega) | (exact QgD hs) | (exact QgE hs) | (exact Eq.refl _) | (simp [SrcE.len];omega)))
   trivial
  refine ⟨fun h2=>?_,fun h2=>?_⟩
  ·skip
   have c2:=h2
   (simp only [bsX] at c2)
   have hj:j < 2:=Qmz (l:=[(A++B),(B)]) (by omega);rcases (by omega:j=0\/j=1) with rfl | rfl
   ·skip
    refine clX g0 ?_
    repeat refine o2 ?_
    refine ⟨[0,1,3,7,15,31,63,7,135,391,903,2047,4095,8191],by kernel_rfl,?_⟩
    repeat refine o11 ?_
    refine gx2 (QaQ hp hp0 hb0) (fun hk=>⟨fun _=>hk,?_⟩)
    repeat refine o11 ?_
    refine ⟨fun h3=>?_,fun h3=>?_⟩
    ·skip
     have c3:=h3
     (simp only [bsX] at c3)
     exact absurd (show false=true from h3) (by decide)
    ·skip
     have c3:=h3
     (simp only [bsX] at c3)
     refine ⟨[0,1,3,7,0,16,48,112,255,511],by kernel_rfl,?_⟩;refine clX (Zg hl (Yw hb0)) ?_
     repeat refine o45 ?_
     refine ⟨fun h4=>?_,fun h4=>?_⟩
     ·skip
      have c4:=h4
      (simp only [bsX] at c4)
      exact absurd (show false=true from h4) (by decide)
     ·skip
      have c4:=h4
      (simp only [bsX] at c4)
      repeat refine o24 ?_
      refine ⟨0+1,(by assumption),(by (exact Qxt rfl)),?_⟩
      repeat refine o2 ?_
      trivial
   ·skip
    refine clX g1 ?_
    repeat refine o2 ?_
    refine ⟨[0,1,3,7,15,31,63,7,135,391,903,2047,4095,8191],by kernel_rfl,?_⟩
    repeat refine o11 ?_
    refine gx2 (QaQ hp hp1 hb1) (fun hk=>⟨fun _=>hk,?_⟩)
    repeat refine o11 ?_
    refine ⟨fun h5=>?_,fun h5=>?_⟩
    ·skip
     have c5:=h5
     (simp only [bsX] at c5)
     exact absurd (show false=true from h5) (by decide)
    ·skip
     have c5:=h5
     (simp only [bsX] at c5)
     refine ⟨[0,1,3,7,0,16,48,112,255,511],by kernel_rfl,?_⟩;refine clX (Zg hl (Yw hb1)) ?_
     repeat refine o45 ?_
     refine ⟨fun h6=>?_,fun h6=>?_⟩
     ·skip
      have c6:=h6
      (simp only [bsX] at c6)
      exact absurd (show false=true from h6) (by decide)
     ·skip
      have c6:=h6
      (simp only [bsX] at c6)
      repeat refine o24 ?_
      refine ⟨1+1,(by assumption),(by (exact Qxt rfl)),?_⟩
      repeat refine o2 ?_
      trivial
  ·skip
   have c2:=h2
   (simp only [bsX] at c2)
   have hj:j=2:=Quc hx1 c2 hL0 hL1;subst hj
   repeat refine o44 ?_
   refine ⟨fun h7=>?_,fun h7=>?_⟩
   ·skip
    have c7:=h7
    (simp only [bsX] at c7)
    exact absurd h7 (by simp [gK,Tr.c])
   ·skip
    have c7:=h7
    (simp only [bsX] at c7)
    repeat refine o2 ?_
    trivial
end
end Go.Proofs.YtcebndkiagbddaaGreatDoor
