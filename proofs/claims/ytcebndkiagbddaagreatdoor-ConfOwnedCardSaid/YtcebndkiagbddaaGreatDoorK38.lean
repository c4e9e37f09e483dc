/- A part of the proof: contracts of functions and what they stand on. Written shorter and merged by a program (pack.py). -/
import Derived.Test.YtcebndkiagbddaaGreatDoorK34
set_option linter.unusedVariables false
set_option linter.unusedSimpArgs false
set_option maxRecDepth 100000
set_option maxHeartbeats 4000000
open List renaming length_append -> Qxo, length_map -> Qxp, map_cons -> Qxq, length_cons -> Qxw, length_singleton -> Qxs, mem_cons_of_mem -> Qxt, mem_map -> Qxu
namespace Go.Proofs.YtcebndkiagbddaaGreatDoor
section
open Go.RowKit Go.Lib
theorem QlA {x:SetS} (h:Zc x=0):Zr x=((wrd x.k.toNat,Zi x),0):=by unfold Zr;rw [if_pos h]
theorem Qba {x:SetS} (h:Zc x=0) (hp:x.p.length<=32):Wv (ls1 x)=(x,0)/\lnC (ls1 x).1 (ls1 x).2=0/\(YI (ls1 x)).length<=95:=by
 have e:ls1 x=(wrd x.k.toNat,Zi x):=congrArg Prod.fst (QlA h);rw [e];refine ⟨Qof h hp,Qq3 h hp,?_⟩;obtain ⟨h1,h2,_⟩:=Xo h;have a:=(QkS h1 h2).2.2.2;have b:=(QgS h hp).2;show (wrd x.k.toNat++61::Zi x).length<=95;rw [Qxo,Qxw];omega
theorem Qo8 {L:List LnP} (h:∀ x∈L,(YI x).length<=95):(jtx L).length<=96 * L.length:=by
 induction L with
 | nil=>exact Nat.le_refl _
 | cons x xs ih =>
  have hx:=h x (by simp);have ih:=ih fun y hy=>h y (Qxt _ hy)
  cases xs with
  | nil=>unfold jtx;rw [Qxq,List.map_nil,Lib.join_one];simp only [Qxw,List.length_nil];omega
  | cons y ys =>
   unfold jtx at ih ⊢;rw [Qxq,Qxq,Wl,Qxo,Qxo];rw [Qxq] at ih;simp only [Qxw,List.length_nil] at ih ⊢;omega
theorem Qxa {M:List LnP} (h:∀ x∈M,(Wv x).2=0):prR [] 0 M=(M.map rs1,0,0):=by
 have key:∀ (M:List LnP) (acc:List SetS) (i:Nat),(∀ x∈M,(Wv x).2=0)->prR acc i M=(acc++M.map rs1,0,0):=by
  intro M
  induction M with
  | nil=>intro acc i _;simp [prR]
  | cons x xs ih =>
   intro acc i hM;unfold prR;rw [if_pos (hM x (by simp)),ih _ _ fun y hy=>hM y (Qxt _ hy)];simp
 exact key M [] 0 h
theorem QfJ {L:List SetS} (hL:∀ x∈L,Zc x=0/\x.p.length<=32) (hn:L.length<=30) :
  Qeu L=(jtx (L.map ls1),0)/\Wd (jtx (L.map ls1))=(L,0,0)/\(jtx (L.map ls1)).length<=3000:=by
 have hM:∀ x∈L.map ls1,lnC x.1 x.2=0:=fun x hx=>by
  obtain ⟨y,hy,rfl⟩:=Qxu.1 hx;exact (Qba (hL y hy).1 (hL y hy).2).2.1
 have hlen:(jtx (L.map ls1)).length<=3000:=by
  have:=Qo8 (L:=L.map ls1) fun x hx=>by
   obtain ⟨y,hy,rfl⟩:=Qxu.1 hx;exact (Qba (hL y hy).1 (hL y hy).2).2.2
  rw [Qxp] at this;omega
 have hb:=Qul (L:=L.map ls1) (by rw [Qxp];omega) hM hlen;refine ⟨?_,?_,hlen⟩
 ·unfold Qeu;rw [Qjp fun x hx=>congrArg Prod.snd (QlA (hL x hx).1),if_pos rfl];exact hb.1
 ·unfold Wd;rw [hb.2,if_pos rfl]
  rw [Qxa fun x hx=>by
   obtain ⟨y,hy,rfl⟩:=Qxu.1 hx
   exact congrArg Prod.snd (Qba (hL y hy).1 (hL y hy).2).1,List.map_map]
  have e:L.map (rs1 ∘ ls1)=L:=(List.map_congr_left (g:=id) fun x hx=>congrArg Prod.fst (Qba (hL x hx).1 (hL x hx).2).1).trans (List.map_id _);rw [e]
theorem QvK {s:SetS} (h:s.k=2\/s.k=8):Zi s=itoa s.n:=by unfold Zi;rw [if_pos (Yn.2 h)]
theorem QfK {s:SetS} (h:s.k=3\/s.k=5\/s.k=9):Zi s=tru:=by unfold Zi;rw [if_neg (by rw [Qeb (by omega) (by omega)];decide),if_pos h]
theorem QfL {s:SetS} (h:s.k=10):Zi s=QbG s.p:=by unfold Zi;rw [if_neg (by rw [Qeb (by omega) (by omega)];decide),if_neg (by omega),if_pos h]
theorem QfM {s:SetS} (h:s.k=6) (ht:s.t=[]):Zi s=W5:=by unfold Zi;rw [if_neg (by rw [Qeb (by omega) (by omega)];decide),if_neg (by omega),if_neg (by omega),if_pos ⟨h,ht⟩]
theorem VA {s:SetS} (h:s.k≠2/\s.k≠8/\s.k≠3/\s.k≠5/\s.k≠9/\s.k≠10) (h6:¬ (s.k=6/\s.t=[])):Zi s=s.t:=by
 unfold Zi;rw [if_neg (by rw [Qeb (by omega) (by omega)];decide),if_neg (by omega),if_neg (by omega),if_neg h6]
abbrev wrds:List (List UInt8):=[[],wrd 1,wrd 2,wrd 3,wrd 4,wrd 5,wrd 6,wrd 7,wrd 8,wrd 9,wrd 10]
theorem Qve:∀ k:Fin 11,wrds.getD k.val []=wrd k.val:=by decide
theorem wl0 (k:Nat):(wrds.getD k []).length<=30:=by
 by_cases h:k < 11
 ·have:∀ k:Fin 11,(wrds.getD k.val []).length<=30:=by decide
  exact this ⟨k,h⟩
 ·rw [List.getD_eq_getElem?_getD,List.getElem?_eq_none (by show 11<=k;omega)];exact Nat.zero_le _
theorem wl1 (k:Nat):(wrds.getD k []).length+([61]:List UInt8).length<=9223372036854775807:=by
 have:=wl0 k;rw [Qxs];omega
theorem wl2 (k:Nat) {v:List UInt8} (h:v.length<=64):(wrds.getD k []++[61]).length+v.length<=9223372036854775807:=by
 have:=wl0 k;rw [Qxo,Qxs];omega
theorem QjJ {L:List SetS} (hL:∀ x∈L,Zc x=0/\x.p.length<=32) (hn:L.length<=30):Cf Tryz.prog 30 [] [QfG L] [] (.s (jtx (L.map ls1))):=by
 have hJl:=(QfJ hL hn).2.2;have hmm:(L.map ls1).map YI=L.map fun x=>YI (ls1 x):=List.map_map ..;have hJ:=QgU (L:=L.map fun x=>YI (ls1 x)) (sep:=[10]) (by rw [Qxp];omega) (by rw [<- hmm];show (jtx (L.map ls1)).length<=_;omega);rw [show Lib.join (L.map fun x=>YI (ls1 x)) [10]=jtx (L.map ls1) by rw [<- hmm];rfl] at hJ;refine Qr {nl:=[(3,9,1)],sel:=[17]} Tryz.func30 Tryz.ntmps30 ?_;refine ⟨Nat,fun i=>⟨[(3,.osl 1003 i),(8,QfG L),(9,.i (L.length:Int)),(10,.i (i:Int))],[(1003,.rz i 1 (fun a b=>.s (YI (ls1 (L.getD a QS)))) 9 0)]⟩,fun i=>i<=L.length,fun i=>L.length - i,0,by omega,?_,fun i hx1=>?_⟩
 ·skip
  repeat refine o7 ?_
  trivial
 refine ⟨fun h1=>?_,fun h1=>?_⟩
 ·skip
  have c1:=h1
  (simp only [bsX] at c1)
  have hi:i < L.length:=by omega
  have hs:L.getD ((i:Int)).toNat QS=L.getD i QS:=by rw [Int.toNat_natCast]
  have hok:=hL _ (Qg3 (d:=QS) hi);rw [<- hs] at hok;have hci:=Xo hok.1;have hk1:=hci.1;have hk2:=hci.2.1;have hls:ls1 (L.getD i QS)=(wrd (L.getD ((i:Int)).toNat QS).k.toNat,Zi (L.getD ((i:Int)).toNat QS)):=by rw [<- hs];exact congrArg Prod.fst (QlA hok.1)
  have hw:=Qve ⟨(L.getD ((i:Int)).toNat QS).k.toNat,by omega⟩;have hvl:=(QgS hok.1 hok.2).2
  repeat refine o3 ?_
  refine ⟨fun h2=>?_,fun h2=>?_⟩
  ·skip
   have c2:=h2
   (simp only [bsX] at c2)
   refine ⟨fun h3=>?_,fun h3=>?_⟩
   ·skip
    have c3:=h3
    (simp only [bsX] at c3)
    have hv:=QvK (s:=L.getD ((i:Int)).toNat QS) (by omega);have hnn:=hci.2.2.2.2.2.2.2.2 (Yn.2 (by omega));refine clX (Qa7 (n:=(L.getD ((i:Int)).toNat QS).n) (by omega) (by omega)) ?_
    repeat refine o33 ?_
    refine Qt (i+1) ?_
    repeat refine o16 ?_
    trivial
   ·skip
    have c3:=h3
    (simp only [bsX] at c3)
    refine ⟨fun h4=>?_,fun h4=>?_⟩
    ·skip
     have c4:=h4
     (simp only [bsX] at c4)
     refine ⟨fun h5=>?_,fun h5=>?_⟩
     ·skip
      have c5:=h5
      (simp only [bsX] at c5)
      have hv:=QfK (s:=L.getD ((i:Int)).toNat QS) (by omega)
      repeat refine o62 ?_
      refine ⟨i+1,(by assumption),(by omega),?_⟩
      repeat refine o9 ?_
      trivial
     ·skip
      have c5:=h5
      (simp only [bsX] at c5)
      refine ⟨fun h6=>?_,fun h6=>?_⟩
      ·skip
       have c6:=h6
       (simp only [bsX] at c6)
       have hv:=QfL (s:=L.getD ((i:Int)).toNat QS) (by omega);refine clX (ZM hok.2) ?_
       repeat refine o12 ?_
       refine ⟨i+1,(by assumption),(by omega),?_⟩
       repeat refine o9 ?_
       trivial
      ·skip
       have c6:=h6
       (simp only [bsX] at c6)
       refine ⟨fun h7=>?_,fun h7=>?_⟩
       ·skip
        have c7:=h7
        (simp only [bsX] at c7)
        refine ⟨fun h8=>?_,fun h8=>?_⟩
        ·skip
         have c8:=h8
         (simp only [bsX] at c8)
         have hv:=QfM (s:=L.getD ((i:Int)).toNat QS) (by omega) (by simpa using h8);refine clX Vy ?_
         repeat refine o12 ?_
         refine ⟨i+1,(by assumption),(by omega),?_⟩
         repeat refine o9 ?_
         trivial
        ·skip
         have c8:=h8
         (simp only [bsX] at c8)
         have ht:¬ (L.getD ((i:Int)).toNat QS).t=[]:=by simpa using h8
         have hv:=VA (s:=L.getD ((i:Int)).toNat QS) (by omega) (fun k=>ht k.2)
         repeat refine o12 ?_
         refine ⟨i+1,(by assumption),(by omega),?_⟩
         repeat refine o9 ?_
         trivial
       ·skip
        have c7:=h7
        (simp only [bsX] at c7)
        have hv:=VA (s:=L.getD ((i:Int)).toNat QS) (by omega) (fun k=>absurd k.1 (by omega))
        repeat refine o12 ?_
        refine ⟨i+1,(by assumption),(by omega),?_⟩
        repeat refine o9 ?_
        trivial
    ·skip
     have c4:=h4
     (simp only [bsX] at c4)
     refine ⟨fun h9=>?_,fun h9=>?_⟩
     ·skip
      have c9:=h9
      (simp only [bsX] at c9)
      refine ⟨fun h10=>?_,fun h10=>?_⟩
      ·skip
       have c10:=h10
       (simp only [bsX] at c10)
       have hv:=QfK (s:=L.getD ((i:Int)).toNat QS) (by omega)
       repeat refine o62 ?_
       refine ⟨i+1,(by assumption),(by omega),?_⟩
       repeat refine o9 ?_
       trivial
      ·skip
       have c10:=h10
       (simp only [bsX] at c10)
       refine ⟨fun h11=>?_,fun h11=>?_⟩
       ·skip
        have c11:=h11
        (simp only [bsX] at c11)
        have hv:=QfL (s:=L.getD ((i:Int)).toNat QS) (by omega);refine clX (ZM hok.2) ?_
        repeat refine o12 ?_
        refine ⟨i+1,(by assumption),(by omega),?_⟩
        repeat refine o9 ?_
        trivial
       ·skip
        have c11:=h11
        (simp only [bsX] at c11)
        refine ⟨fun h12=>?_,fun h12=>?_⟩
        ·skip
         have c12:=h12
         (simp only [bsX] at c12)
         refine ⟨fun h13=>?_,fun h13=>?_⟩
         ·skip
          have c13:=h13
          (simp only [bsX] at c13)
          have hv:=QfM (s:=L.getD ((i:Int)).toNat QS) (by omega) (by simpa using h13);refine clX Vy ?_
          repeat refine o12 ?_
          refine ⟨i+1,(by assumption),(by omega),?_⟩
          repeat refine o9 ?_
          trivial
         ·skip
          have c13:=h13
          (simp only [bsX] at c13)
          have ht:¬ (L.getD ((i:Int)).toNat QS).t=[]:=by simpa using h13
          have hv:=VA (s:=L.getD ((i:Int)).toNat QS) (by omega) (fun k=>ht k.2)
          repeat refine o12 ?_
          refine ⟨i+1,(by assumption),(by omega),?_⟩
          repeat refine o9 ?_
          trivial
        ·skip
         have c12:=h12
         (simp only [bsX] at c12)
         have hv:=VA (s:=L.getD ((i:Int)).toNat QS) (by omega) (fun k=>absurd k.1 (by omega))
         repeat refine o12 ?_
         refine ⟨i+1,(by assumption),(by omega),?_⟩
         repeat refine o9 ?_
         trivial
     ·skip
      have c9:=h9
      (simp only [bsX] at c9)
      refine ⟨fun h14=>?_,fun h14=>?_⟩
      ·skip
       have c14:=h14
       (simp only [bsX] at c14)
       have hv:=QfK (s:=L.getD ((i:Int)).toNat QS) (by omega)
       repeat refine o62 ?_
       refine ⟨i+1,(by assumption),(by omega),?_⟩
       repeat refine o9 ?_
       trivial
      ·skip
       have c14:=h14
       (simp only [bsX] at c14)
       refine ⟨fun h15=>?_,fun h15=>?_⟩
       ·skip
        have c15:=h15
        (simp only [bsX] at c15)
        have hv:=QfL (s:=L.getD ((i:Int)).toNat QS) (by omega);refine clX (ZM hok.2) ?_
        repeat refine o12 ?_
        refine ⟨i+1,(by assumption),(by omega),?_⟩
        repeat refine o9 ?_
        trivial
       ·skip
        have c15:=h15
        (simp only [bsX] at c15)
        refine ⟨fun h16=>?_,fun h16=>?_⟩
        ·skip
         have c16:=h16
         (simp only [bsX] at c16)
         refine ⟨fun h17=>?_,fun h17=>?_⟩
         ·skip
          have c17:=h17
          (simp only [bsX] at c17)
          have hv:=QfM (s:=L.getD ((i:Int)).toNat QS) (by omega) (by simpa using h17);refine clX Vy ?_
          repeat refine o12 ?_
          refine ⟨i+1,(by assumption),(by omega),?_⟩
          repeat refine o9 ?_
          trivial
         ·skip
          have c17:=h17
          (simp only [bsX] at c17)
          have ht:¬ (L.getD ((i:Int)).toNat QS).t=[]:=by simpa using h17
          have hv:=VA (s:=L.getD ((i:Int)).toNat QS) (by omega) (fun k=>ht k.2)
          repeat refine o12 ?_
          refine ⟨i+1,(by assumption),(by omega),?_⟩
          repeat refine o9 ?_
          trivial
        ·skip
         have c16:=h16
         (simp only [bsX] at c16)
         have hv:=VA (s:=L.getD ((i:Int)).toNat QS) (by omega) (fun k=>absurd k.1 (by omega))
         repeat refine o12 ?_
         refine ⟨i+1,(by assumption),(by omega),?_⟩
         repeat refine o9 ?_
         trivial
  ·skip
   have c2:=h2
   (simp only [bsX] at c2)
   refine ⟨fun h18=>?_,fun h18=>?_⟩
   ·skip
    have c18:=h18
    (simp only [bsX] at c18)
    have hv:=QvK (s:=L.getD ((i:Int)).toNat QS) (by omega);have hnn:=hci.2.2.2.2.2.2.2.2 (Yn.2 (by omega));refine clX (Qa7 (n:=(L.getD ((i:Int)).toNat QS).n) (by omega) (by omega)) ?_
    repeat refine o33 ?_
    refine Qt (i+1) ?_
    repeat refine o16 ?_
    trivial
   ·skip
    have c18:=h18
    (simp only [bsX] at c18)
    refine ⟨fun h19=>?_,fun h19=>?_⟩
    ·skip
     have c19:=h19
     (simp only [bsX] at c19)
     refine ⟨fun h20=>?_,fun h20=>?_⟩
     ·skip
      have c20:=h20
      (simp only [bsX] at c20)
      have hv:=QfK (s:=L.getD ((i:Int)).toNat QS) (by omega)
      repeat refine o63 ?_
      refine Qt (i+1) ?_
      repeat refine o16 ?_
      trivial
     ·skip
      have c20:=h20
      (simp only [bsX] at c20)
      refine ⟨fun h21=>?_,fun h21=>?_⟩
      ·skip
       have c21:=h21
       (simp only [bsX] at c21)
       have hv:=QfL (s:=L.getD ((i:Int)).toNat QS) (by omega);refine clX (ZM hok.2) ?_
       repeat refine o12 ?_
       refine ⟨i+1,(by assumption),(by omega),?_⟩
       repeat refine o9 ?_
       trivial
      ·skip
       have c21:=h21
       (simp only [bsX] at c21)
       refine ⟨fun h22=>?_,fun h22=>?_⟩
       ·skip
        have c22:=h22
        (simp only [bsX] at c22)
        refine ⟨fun h23=>?_,fun h23=>?_⟩
        ·skip
         have c23:=h23
         (simp only [bsX] at c23)
         have hv:=QfM (s:=L.getD ((i:Int)).toNat QS) (by omega) (by simpa using h23);refine clX Vy ?_
         repeat refine o12 ?_
         refine ⟨i+1,(by assumption),(by omega),?_⟩
         repeat refine o9 ?_
         trivial
        ·skip
         have c23:=h23
         (simp only [bsX] at c23)
         have ht:¬ (L.getD ((i:Int)).toNat QS).t=[]:=by simpa using h23
         have hv:=VA (s:=L.getD ((i:Int)).toNat QS) (by omega) (fun k=>ht k.2)
         repeat refine o12 ?_
         refine ⟨i+1,(by assumption),(by omega),?_⟩
         repeat refine o9 ?_
         trivial
       ·skip
        have c22:=h22
        (simp only [bsX] at c22)
        have hv:=VA (s:=L.getD ((i:Int)).toNat QS) (by omega) (fun k=>absurd k.1 (by omega))
        repeat refine o12 ?_
        refine ⟨i+1,(by assumption),(by omega),?_⟩
        repeat refine o9 ?_
        trivial
    ·skip
     have c19:=h19
     (simp only [bsX] at c19)
     refine ⟨fun h24=>?_,fun h24=>?_⟩
     ·skip
      have c24:=h24
      (simp only [bsX] at c24)
      refine ⟨fun h25=>?_,fun h25=>?_⟩
      ·skip
       have c25:=h25
       (simp only [bsX] at c25)
       have hv:=QfK (s:=L.getD ((i:Int)).toNat QS) (by omega)
       repeat refine o63 ?_
       refine Qt (i+1) ?_
       repeat refine o16 ?_
       trivial
      ·skip
       have c25:=h25
       (simp only [bsX] at c25)
       refine ⟨fun h26=>?_,fun h26=>?_⟩
       ·skip
        have c26:=h26
        (simp only [bsX] at c26)
        have hv:=QfL (s:=L.getD ((i:Int)).toNat QS) (by omega);refine clX (ZM hok.2) ?_
        repeat refine o12 ?_
        refine ⟨i+1,(by assumption),(by omega),?_⟩
        repeat refine o9 ?_
        trivial
       ·skip
        have c26:=h26
        (simp only [bsX] at c26)
        refine ⟨fun h27=>?_,fun h27=>?_⟩
        ·skip
         have c27:=h27
         (simp only [bsX] at c27)
         refine ⟨fun h28=>?_,fun h28=>?_⟩
         ·skip
          have c28:=h28
          (simp only [bsX] at c28)
          have hv:=QfM (s:=L.getD ((i:Int)).toNat QS) (by omega) (by simpa using h28);refine clX Vy ?_
          repeat refine o12 ?_
          refine ⟨i+1,(by assumption),(by omega),?_⟩
          repeat refine o9 ?_
          trivial
         ·skip
          have c28:=h28
          (simp only [bsX] at c28)
          have ht:¬ (L.getD ((i:Int)).toNat QS).t=[]:=by simpa using h28
          have hv:=VA (s:=L.getD ((i:Int)).toNat QS) (by omega) (fun k=>ht k.2)
          repeat refine o12 ?_
          refine ⟨i+1,(by assumption),(by omega),?_⟩
          repeat refine o9 ?_
          trivial
        ·skip
         have c27:=h27
         (simp only [bsX] at c27)
         have hv:=VA (s:=L.getD ((i:Int)).toNat QS) (by omega) (fun k=>absurd k.1 (by omega))
         repeat refine o12 ?_
         refine ⟨i+1,(by assumption),(by omega),?_⟩
         repeat refine o9 ?_
         trivial
     ·skip
      have c24:=h24
      (simp only [bsX] at c24)
      refine ⟨fun h29=>?_,fun h29=>?_⟩
      ·skip
       have c29:=h29
       (simp only [bsX] at c29)
       have hv:=QfK (s:=L.getD ((i:Int)).toNat QS) (by omega)
       repeat refine o63 ?_
       refine Qt (i+1) ?_
       repeat refine o16 ?_
       trivial
      ·skip
       have c29:=h29
       (simp only [bsX] at c29)
       refine ⟨fun h30=>?_,fun h30=>?_⟩
       ·skip
        have c30:=h30
        (simp only [bsX] at c30)
        have hv:=QfL (s:=L.getD ((i:Int)).toNat QS) (by omega);refine clX (ZM hok.2) ?_
        repeat refine o33 ?_
        refine Qt (i+1) ?_
        repeat refine o16 ?_
        trivial
       ·skip
        have c30:=h30
        (simp only [bsX] at c30)
        refine ⟨fun h31=>?_,fun h31=>?_⟩
        ·skip
         have c31:=h31
         (simp only [bsX] at c31)
         refine ⟨fun h32=>?_,fun h32=>?_⟩
         ·skip
          have c32:=h32
          (simp only [bsX] at c32)
          have hv:=QfM (s:=L.getD ((i:Int)).toNat QS) (by omega) (by simpa using h32);refine clX Vy ?_
          repeat refine o33 ?_
          refine Qt (i+1) ?_
          repeat refine o16 ?_
          trivial
         ·skip
          have c32:=h32
          (simp only [bsX] at c32)
          have ht:¬ (L.getD ((i:Int)).toNat QS).t=[]:=by simpa using h32
          have hv:=VA (s:=L.getD ((i:Int)).toNat QS) (by omega) (fun k=>ht k.2)
          repeat refine o33 ?_
          refine Qt (i+1) ?_
          repeat refine o16 ?_
          trivial
        ·skip
         have c31:=h31
         (simp only [bsX] at c31)
         have hv:=VA (s:=L.getD ((i:Int)).toNat QS) (by omega) (fun k=>absurd k.1 (by omega))
         repeat refine o33 ?_
         refine Qt (i+1) ?_
         repeat refine o16 ?_
         trivial
 ·skip
  have c1:=h1
  (simp only [bsX] at c1)
  have hi:i=L.length:=by have:i<=L.length:=hx1;omega
  subst hi;refine clX hJ ?_
  repeat (refine Ob.mk ?_ ?_;focus (first | (exact (Qxp ..).symm) | (exact Eq.refl _) | (intro hg;((intro hq;((simp_all;done)))))))
  trivial
end
end Go.Proofs.YtcebndkiagbddaaGreatDoor
