/- A part of the proof: contracts of functions and what they stand on. Written shorter and merged by a program (pack.py). -/
import Derived.Test.YtcebndkiagbddaaGreatDoorK28
set_option linter.unusedVariables false
set_option linter.unusedSimpArgs false
set_option maxRecDepth 100000
set_option maxHeartbeats 4000000
open List renaming length -> Qxo, length_append -> Qxp, length_cons -> Qxw
open Nat renaming zero_le -> Qxq
namespace Go.Proofs.YtcebndkiagbddaaGreatDoor
section
open Go.RowKit
theorem QcP (n:Int):Vu (Qi2 n):=by
 have:=IntKind.wrap_i64 n;unfold Qi2;unfold Vu;omega
theorem Qsu {i:Nat} (h:i < 8):(pk (i:Int) 8).toNat=i:=by
 unfold pk;rw [decide_eq_false (by omega)];show ((i:Int) % 8).toNat=i;omega
theorem JA {i:Nat} (h:i < 8):Cf Tryz.prog 31 [] [.i (i:Int)] [] (.s (Wy i)):=by
 have e:QgJ (i:Int)=Wy i:=by unfold QgJ;rw [Qsu h]
 rw [<- e];exact Qwr ⟨by omega,by omega⟩
abbrev Qsv (r:RawS):List UInt8:=if pk r.k 3=0 then Wy 7 else []
abbrev mt (l:List RawS) (j:Nat):List (List Bool):=(QP l j).1
abbrev pS (l:List RawS) (j:Nat):List PeerS:=(QP l j).2
abbrev gt (l:List RawS) (i k:Nat):List (List Bool):=Y6 (rA l i) (QP l (i - 1)).1 k
abbrev gE (l:List RawS) (i:Nat):List (List Bool):=gt l i (Yx (rA l i))
abbrev Dl (l:List RawS) (i k:Nat):List (List Bool):=((WU (gE l i)).take k).foldl QH (mt l (i - 1)++gE l i)
abbrev Vz (l:List RawS) (i:Nat):Int:=if i=0 then 0 else pk (rA l 0).a 65536
theorem Qsw {r:RawS} {met:List (List Bool)} {k:Nat} (h:nsK r k ∉ met++Y6 r met k):Y6 r met (k+1)=Y6 r met k++[nsK r k]:=if_neg h
theorem Qsx {r:RawS} {met:List (List Bool)} {k:Nat} (h:nsK r k∈met++Y6 r met k):Y6 r met (k+1)=Y6 r met k:=if_pos h
theorem Qa8 {l:List RawS} {i:Nat} (h1:1<=i) (h:0 < pk (rA l i).k 5):mt l i=mt l (i - 1)++gE l i/\pS l i=pS l (i - 1)++[JL (rA l i) i (gE l i)]:=by
 obtain ⟨j,rfl⟩:∃ j,i=j+1:=⟨i - 1,by omega⟩;have e:QP l (j+1)=_:=if_pos h;exact ⟨congrArg Prod.fst e,congrArg Prod.snd e⟩
theorem Qa9 {l:List RawS} {i:Nat} (h1:1<=i) (h:¬ 0 < pk (rA l i).k 5):mt l i=Dl l i (gE l i).length/\pS l i=pS l (i - 1):=by
 obtain ⟨j,rfl⟩:∃ j,i=j+1:=⟨i - 1,by omega⟩;have e:QP l (j+1)=_:=if_neg h;refine ⟨?_,by show (QP l (j+1)).2=(QP l j).2;rw [e]⟩;have e2:=congrArg Prod.fst e;show (QP l (j+1)).1=((WU (gE l (j+1))).take (gE l (j+1)).length).foldl QH _;rw [List.take_of_length_le (by rw [X1];exact Nat.le_refl _)];exact e2
theorem Qne {l:List RawS} {i k:Nat} (hk:k < (gE l i).length):Dl l i (k+1)=QH (Dl l i k) ((WU (gE l i)).getD k []):=by
 have hk2:k < (WU (gE l i)).length:=by rw [X1];exact hk
 show ((WU (gE l i)).take (k+1)).foldl QH _=_;rw [List.take_succ_eq_append_getElem hk2,List.foldl_append,List.getD_eq_getElem?_getD,List.getElem?_eq_getElem hk2];rfl
theorem Qsy {l:List RawS} (hl:∀ x∈l,x.inn) (hn:(l.length:Int)<=9223372036854775807):Cf Tryz.prog 16 [] [JJ l] [] (Qn (Qeh l)):=by
 refine QJ {nl:=[(4,36,2)],nb:=[(1003,2,33,5),(1007,4,36,2)],wr:=[61,65],fk:=[92]} Tryz.func16 Tryz.ntmps16 ?_;refine clX (JA (i:=0) (by decide)) ?_
 repeat refine o0 ?_
 refine ⟨Nat,fun i=>⟨[(2,.own 1002 0),(3,.own 1003 0),(4,.osl 61 (mt l (i - 1)).length),(14,JJ l),(15,.i (l.length:Int)),(16,.i (i:Int))],[(1002,.box [.s [],.i 0,.nil] 25),(1003,.box [.s (Wy 0),.i (Vz l i),.osl 701003 (pS l (i - 1)).length] 25),(701003,.rz (pS l (i - 1)).length 5 (fun a b=>Qe ((pS l (i - 1)).getD a Qa) b) 33 0),(61,.rz (mt l (i - 1)).length 2 (fun a b=>Qz ((mt l (i - 1)).getD a []) b) 36 0)]⟩,fun i=>i<=l.length/\i<=7,fun i=>l.length - i,0,⟨Qxq _,Qxq _⟩,?_,fun i hx1=>?_⟩
 ·skip
  repeat refine o1 ?_
  trivial
 refine ⟨fun h1=>?_,fun h1=>?_⟩
 ·skip
  have c1:=h1
  (simp only [bsX] at c1)
  have hi:i < l.length:=by omega
  have hI:=rA_in hl hi
  repeat refine o3 ?_
  refine ⟨fun h2=>?_,fun h2=>?_⟩
  ·skip
   have c2:=h2
   (simp only [bsX] at c2)
   have hi0:i=0:=by omega
   have hpt:pk (rA l i).a 65536=Vz l (i+1):=by rw [hi0];rfl
   have eM:mt l (i - 1)=mt l (i+1 - 1):=by rw [hi0]
   have eP:pS l (i - 1)=pS l (i+1 - 1):=by rw [hi0]
   have hnx:i+1<=l.length/\i+1<=7:=⟨hi,by omega⟩;refine clX (W8 (n:=(rA l i).a) (m:=65536) hI.2.1.1 hI.2.1.2 (by decide)) ?_
   repeat refine o17 ?_
   refine Qt (i+1) ?_
   repeat (refine Ob.mk ?_ ?_;focus (first | (exact congrArg Qxo eM) | (exact congrArg Qxo eP) | (exact eqN eM) | (exact eqP eP) | (exact fun _ _ _ _=>rfl) | (exact hpt) | (exact Eq.refl _) | omega))
   trivial
  ·skip
   have c2:=h2
   (simp only [bsX] at c2)
   have h1i:1<=i:=by omega
   have hpt:Vz l i=Vz l (i+1):=(if_neg (by omega)).trans (if_neg (by omega)).symm;refine ⟨fun h3=>?_,fun h3=>?_⟩
   ·skip
    have c3:=h3
    (simp only [bsX] at c3)
    have hz:pS l (i - 1)=(Qeh l).ps:=by show pS l (i - 1)=pS l (min (l.length - 1) 6);rw [show min (l.length - 1) 6=i - 1 from by omega]
    have hpo:Vz l i=(Qeh l).port:=(if_neg (by omega)).trans (if_neg (by omega)).symm
    repeat refine o84 ?_
    trivial
   ·skip
    have c3:=h3
    (simp only [bsX] at c3)
    have hj:i<=6:=by omega
    have hSt:=QbJ l (i - 1) (by omega);have hml:(mt l (i - 1)).length<=3 * (i - 1):=hSt.len;have eM0:mt l (i - 1)++gt l i 0=mt l (i - 1):=List.append_nil _;have hnx:i+1<=l.length/\i+1<=7:=⟨hi,by omega⟩;have hpl:(pS l (i - 1)).length<=i - 1:=hSt.pl;have g1:=QdW (rA l i).a (m:=5) (by decide);have g2:=Qb9 (rA l i).a (m:=5) (by decide);have g3:=QdW (rA l i).k (m:=4) (by decide);have g4:=Qb9 (rA l i).k (m:=4) (by decide);refine ⟨[0,1,0,4,15,31,0,64,63,319,1023,2047,4095,8191,0,32767],by kernel_rfl,?_⟩;refine clX (JA (i:=i) (by omega)) ?_
    repeat refine o0 ?_
    refine clX (W8 (n:=(rA l i).b) (m:=100) hI.2.2.1.1 hI.2.2.1.2 (by decide)) ?_
    repeat refine o0 ?_
    refine clX QiV ?_;refine clX QiV ?_;refine clX (W8 (n:=(rA l i).a) (m:=5) hI.2.1.1 hI.2.1.2 (by decide)) ?_
    repeat refine o17 ?_
    refine clX (W8 (n:=(rA l i).k) (m:=3) hI.1.1 hI.1.2 (by decide)) ?_
    repeat refine o0 ?_
    refine ⟨fun h4=>?_,fun h4=>?_⟩
    ·skip
     have c4:=h4
     (simp only [bsX] at c4)
     have hs:Qsv (rA l i)=Wy 7:=if_pos c4;refine clX (JA (i:=7) (by decide)) ?_
     repeat refine o0 ?_
     refine clX (W8 (n:=(rA l i).k) (m:=4) hI.1.1 hI.1.2 (by decide)) ?_
     repeat refine o0 ?_
     refine ⟨Nat,fun k=>⟨[(2,.own 1002 0),(3,.own 1003 0),(4,.osl 61 (mt l (i - 1)++gt l i k).length),(5,.i (i:Int)),(6,.own 1006 0),(7,.own 1007 0),(14,JJ l),(15,.i (l.length:Int)),(16,.i (i:Int)),(51,.i (pk (rA l i).k 4)),(52,.i (k:Int))],[(1002,.box [.s [],.i 0,.nil] 25),(1003,.box [.s (Wy 0),.i (Vz l i),.osl 701003 (pS l (i - 1)).length] 25),(701003,.rz (pS l (i - 1)).length 5 (fun a b=>Qe ((pS l (i - 1)).getD a Qa) b) 33 0),(61,.rz (mt l (i - 1)++gt l i k).length 2 (fun a b=>Qz ((mt l (i - 1)++gt l i k).getD a []) b) 36 0),(1006,.box [.i (rA l i).k,.i (rA l i).a,.i (rA l i).b,.s (rA l i).s] 44),(1007,.box [.s (Wy i),.s (Qsv (rA l i)),.s (endL.getD (pk (rA l i).a 5).toNat []),.i (pk (rA l i).b 100),.osl 701007 (gt l i k).length] 33),(701007,.rz (gt l i k).length 2 (fun a b=>Qz ((gt l i k).getD a []) b) 36 0)]⟩,fun k=>(k:Int)<=pk (rA l i).k 4,fun k=>(pk (rA l i).k 4).toNat - k,0,g3,?_,fun k hx2=>?_⟩
     ·skip
      repeat refine o85 ?_
      trivial
     refine ⟨fun h5=>?_,fun h5=>?_⟩
     ·skip
      have c5:=h5
      (simp only [bsX] at c5)
      have hk:(k:Int) < pk (rA l i).k 4:=by omega
      have hgl:(gt l i k).length<=k:=X2 (rA l i) (QP l (i - 1)).1 k;have hal:(mt l (i - 1)++gt l i k).length<=1000:=by rw [Qxp];omega
      repeat refine o4 ?_
      refine clX (Qmy (k:=(rA l i).k) (a:=Qi2 ((rA l i).a+5 * (k:Int))) (b:=Qi2 ((rA l i).b+(k:Int))) (s:=[]) hI.1 (QcP _) (QcP _)) ?_
      repeat refine o0 ?_
      refine clX (Jt (ns:=mt l (i - 1)++gt l i k) (n:=nsK (rA l i) k) hal QaP) ?_
      repeat refine o1 ?_
      refine ⟨fun h6=>?_,fun h6=>?_⟩
      ·skip
       have c6:=h6
       (simp only [bsX] at c6)
       have hg:gt l i (k+1)=gt l i k++[nsK (rA l i) k]:=Qsw c6;have hM:mt l (i - 1)++gt l i (k+1)=(mt l (i - 1)++gt l i k)++[nsK (rA l i) k]:=(congrArg (mt l (i - 1) ++ ·) hg).trans (List.append_assoc ..).symm;have hl1:(mt l (i - 1)++gt l i k).length+1=(mt l (i - 1)++gt l i (k+1)).length:=by rw [hM];simp [Nat.add_assoc]
       have hl2:(gt l i k).length+1=(gt l i (k+1)).length:=by rw [hg];simp
       repeat refine o23 ?_
       refine Qt (k+1) ?_
       repeat refine o86 ?_
       trivial
      ·skip
       have c6:=h6
       (simp only [bsX] at c6)
       have hg:gt l i k=gt l i (k+1):=(Qsx c6).symm;have hM:mt l (i - 1)++gt l i k=mt l (i - 1)++gt l i (k+1):=congrArg (mt l (i - 1) ++ ·) hg;have hl1:=congrArg Qxo hM;have hl2:=congrArg Qxo hg
       repeat refine o4 ?_
       refine Qt (k+1) ?_
       repeat refine o87 ?_
       trivial
     ·skip
      have c5:=h5
      (simp only [bsX] at c5)
      obtain rfl:k=Yx (rA l i):=by unfold Yx;omega
      have hgl:(gE l i).length<=Yx (rA l i):=X2 (rA l i) (QP l (i - 1)).1 (Yx (rA l i));have hg32:∀ n∈gE l i,n.length<=32:=QaX (rA l i) (QP l (i - 1)).1 (Yx (rA l i));have hc3:Yx (rA l i)<=3:=by unfold Yx;omega
      have ha32:∀ n∈mt l (i - 1)++gE l i,n.length<=32:=fun n h=>(List.mem_append.1 h).elim (hSt.b32 n) (hg32 n);have hal:(mt l (i - 1)++gE l i).length<=1000:=by rw [Qxp];omega
      refine clX (QjI (ns:=gE l i) (by omega) hg32) ?_
      repeat refine o1 ?_
      refine clX (W8 (n:=(rA l i).k) (m:=5) hI.1.1 hI.1.2 (by decide)) ?_
      repeat refine o0 ?_
      refine ⟨fun h7=>?_,fun h7=>?_⟩
      ·skip
       have c7:=h7
       (simp only [bsX] at c7)
       have hcM:mt l (i - 1)++gE l i=mt l (i+1 - 1):=(Qa8 h1i c7).1.symm;have hcP:pS l (i+1 - 1)=pS l (i - 1)++[JL (rA l i) i (gE l i)]:=(Qa8 h1i c7).2;have hcl:(pS l (i - 1)).length+1=(pS l (i+1 - 1)).length:=by rw [hcP];simp
       repeat refine o23 ?_
       refine Qt (i+1) ?_
       repeat refine o88 ?_
       trivial
      ·skip
       have c7:=h7
       (simp only [bsX] at c7)
       have hcM:Dl l i (gE l i).length=mt l (i+1 - 1):=(Qa9 h1i c7).1.symm;have hcP:pS l (i - 1)=pS l (i+1 - 1):=(Qa9 h1i c7).2.symm;have hcl:=congrArg Qxo hcP;refine ⟨Nat,fun k=>⟨[(2,.own 1002 0),(3,.own 1003 0),(4,.osl 61 (Dl l i k).length),(14,JJ l),(15,.i (l.length:Int)),(16,.i (i:Int)),(97,.osl 701007 (gE l i).length),(98,.i ((gE l i).length:Int)),(99,.i (k:Int))],[(1002,.box [.s [],.i 0,.nil] 25),(1003,.box [.s (Wy 0),.i (Vz l i),.osl 701003 (pS l (i - 1)).length] 25),(701003,.rz (pS l (i - 1)).length 5 (fun a b=>Qe ((pS l (i - 1)).getD a Qa) b) 33 0),(61,.rz (Dl l i k).length 2 (fun a b=>Qz ((Dl l i k).getD a []) b) 36 0),(701007,.rz (gE l i).length 2 (fun a b=>Qz ((WU (gE l i)).getD a []) b) 36 0)]⟩,fun k=>k<=(gE l i).length,fun k=>(gE l i).length - k,0,Qxq _,?_,fun k hx3=>?_⟩
       ·skip
        repeat refine o1 ?_
        trivial
       refine ⟨fun h8=>?_,fun h8=>?_⟩
       ·skip
        have c8:=h8
        (simp only [bsX] at c8)
        have hk:k < (gE l i).length:=by omega
        have hD:=Qne hk;have hdl:=QaY ((WU (gE l i)).take k) (mt l (i - 1)++gE l i)
        repeat refine o3 ?_
        refine clX (QmR (ns:=Dl l i k) (n:=(WU (gE l i)).getD k []) (Nat.le_trans hdl hal) (QgW _ _ ha32)) ?_
        repeat refine o1 ?_
        refine Qt (k+1) ?_
        repeat refine o89 ?_
        trivial
       ·skip
        have c8:=h8
        (simp only [bsX] at c8)
        obtain rfl:k=(gE l i).length:=by omega
        repeat refine o4 ?_
        refine Qt (i+1) ?_
        repeat refine o90 ?_
        trivial
    ·skip
     have c4:=h4
     (simp only [bsX] at c4)
     have hs:Qsv (rA l i)=[]:=if_neg c4;refine clX (W8 (n:=(rA l i).k) (m:=4) hI.1.1 hI.1.2 (by decide)) ?_
     repeat refine o0 ?_
     refine ⟨Nat,fun k=>⟨[(2,.own 1002 0),(3,.own 1003 0),(4,.osl 61 (mt l (i - 1)++gt l i k).length),(5,.i (i:Int)),(6,.own 1006 0),(7,.own 1007 0),(14,JJ l),(15,.i (l.length:Int)),(16,.i (i:Int)),(51,.i (pk (rA l i).k 4)),(52,.i (k:Int))],[(1002,.box [.s [],.i 0,.nil] 25),(1003,.box [.s (Wy 0),.i (Vz l i),.osl 701003 (pS l (i - 1)).length] 25),(701003,.rz (pS l (i - 1)).length 5 (fun a b=>Qe ((pS l (i - 1)).getD a Qa) b) 33 0),(61,.rz (mt l (i - 1)++gt l i k).length 2 (fun a b=>Qz ((mt l (i - 1)++gt l i k).getD a []) b) 36 0),(1006,.box [.i (rA l i).k,.i (rA l i).a,.i (rA l i).b,.s (rA l i).s] 44),(1007,.box [.s (Wy i),.s (Qsv (rA l i)),.s (endL.getD (pk (rA l i).a 5).toNat []),.i (pk (rA l i).b 100),.osl 701007 (gt l i k).length] 33),(701007,.rz (gt l i k).length 2 (fun a b=>Qz ((gt l i k).getD a []) b) 36 0)]⟩,fun k=>(k:Int)<=pk (rA l i).k 4,fun k=>(pk (rA l i).k 4).toNat - k,0,g3,?_,fun k hx2=>?_⟩
     ·skip
      repeat refine o85 ?_
      trivial
     refine ⟨fun h9=>?_,fun h9=>?_⟩
     ·skip
      have c9:=h9
      (simp only [bsX] at c9)
      have hk:(k:Int) < pk (rA l i).k 4:=by omega
      have hgl:(gt l i k).length<=k:=X2 (rA l i) (QP l (i - 1)).1 k;have hal:(mt l (i - 1)++gt l i k).length<=1000:=by rw [Qxp];omega
      repeat refine o4 ?_
      refine clX (Qmy (k:=(rA l i).k) (a:=Qi2 ((rA l i).a+5 * (k:Int))) (b:=Qi2 ((rA l i).b+(k:Int))) (s:=[]) hI.1 (QcP _) (QcP _)) ?_
      repeat refine o0 ?_
      refine clX (Jt (ns:=mt l (i - 1)++gt l i k) (n:=nsK (rA l i) k) hal QaP) ?_
      repeat refine o1 ?_
      refine ⟨fun h10=>?_,fun h10=>?_⟩
      ·skip
       have c10:=h10
       (simp only [bsX] at c10)
       have hg:gt l i (k+1)=gt l i k++[nsK (rA l i) k]:=Qsw c10;have hM:mt l (i - 1)++gt l i (k+1)=(mt l (i - 1)++gt l i k)++[nsK (rA l i) k]:=(congrArg (mt l (i - 1) ++ ·) hg).trans (List.append_assoc ..).symm;have hl1:(mt l (i - 1)++gt l i k).length+1=(mt l (i - 1)++gt l i (k+1)).length:=by rw [hM];simp [Nat.add_assoc]
       have hl2:(gt l i k).length+1=(gt l i (k+1)).length:=by rw [hg];simp
       repeat refine o23 ?_
       refine Qt (k+1) ?_
       repeat refine o86 ?_
       trivial
      ·skip
       have c10:=h10
       (simp only [bsX] at c10)
       have hg:gt l i k=gt l i (k+1):=(Qsx c10).symm;have hM:mt l (i - 1)++gt l i k=mt l (i - 1)++gt l i (k+1):=congrArg (mt l (i - 1) ++ ·) hg;have hl1:=congrArg Qxo hM;have hl2:=congrArg Qxo hg
       repeat refine o4 ?_
       refine Qt (k+1) ?_
       repeat refine o87 ?_
       trivial
     ·skip
      have c9:=h9
      (simp only [bsX] at c9)
      obtain rfl:k=Yx (rA l i):=by unfold Yx;omega
      have hgl:(gE l i).length<=Yx (rA l i):=X2 (rA l i) (QP l (i - 1)).1 (Yx (rA l i));have hg32:∀ n∈gE l i,n.length<=32:=QaX (rA l i) (QP l (i - 1)).1 (Yx (rA l i));have hc3:Yx (rA l i)<=3:=by unfold Yx;omega
      have ha32:∀ n∈mt l (i - 1)++gE l i,n.length<=32:=fun n h=>(List.mem_append.1 h).elim (hSt.b32 n) (hg32 n);have hal:(mt l (i - 1)++gE l i).length<=1000:=by rw [Qxp];omega
      refine clX (QjI (ns:=gE l i) (by omega) hg32) ?_
      repeat refine o1 ?_
      refine clX (W8 (n:=(rA l i).k) (m:=5) hI.1.1 hI.1.2 (by decide)) ?_
      repeat refine o0 ?_
      refine ⟨fun h11=>?_,fun h11=>?_⟩
      ·skip
       have c11:=h11
       (simp only [bsX] at c11)
       have hcM:mt l (i - 1)++gE l i=mt l (i+1 - 1):=(Qa8 h1i c11).1.symm;have hcP:pS l (i+1 - 1)=pS l (i - 1)++[JL (rA l i) i (gE l i)]:=(Qa8 h1i c11).2;have hcl:(pS l (i - 1)).length+1=(pS l (i+1 - 1)).length:=by rw [hcP];simp
       repeat refine o23 ?_
       refine Qt (i+1) ?_
       repeat refine o88 ?_
       trivial
      ·skip
       have c11:=h11
       (simp only [bsX] at c11)
       have hcM:Dl l i (gE l i).length=mt l (i+1 - 1):=(Qa9 h1i c11).1.symm;have hcP:pS l (i - 1)=pS l (i+1 - 1):=(Qa9 h1i c11).2.symm;have hcl:=congrArg Qxo hcP;refine ⟨Nat,fun k=>⟨[(2,.own 1002 0),(3,.own 1003 0),(4,.osl 61 (Dl l i k).length),(14,JJ l),(15,.i (l.length:Int)),(16,.i (i:Int)),(97,.osl 701007 (gE l i).length),(98,.i ((gE l i).length:Int)),(99,.i (k:Int))],[(1002,.box [.s [],.i 0,.nil] 25),(1003,.box [.s (Wy 0),.i (Vz l i),.osl 701003 (pS l (i - 1)).length] 25),(701003,.rz (pS l (i - 1)).length 5 (fun a b=>Qe ((pS l (i - 1)).getD a Qa) b) 33 0),(61,.rz (Dl l i k).length 2 (fun a b=>Qz ((Dl l i k).getD a []) b) 36 0),(701007,.rz (gE l i).length 2 (fun a b=>Qz ((WU (gE l i)).getD a []) b) 36 0)]⟩,fun k=>k<=(gE l i).length,fun k=>(gE l i).length - k,0,Qxq _,?_,fun k hx3=>?_⟩
       ·skip
        repeat refine o1 ?_
        trivial
       refine ⟨fun h12=>?_,fun h12=>?_⟩
       ·skip
        have c12:=h12
        (simp only [bsX] at c12)
        have hk:k < (gE l i).length:=by omega
        have hD:=Qne hk;have hdl:=QaY ((WU (gE l i)).take k) (mt l (i - 1)++gE l i)
        repeat refine o3 ?_
        refine clX (QmR (ns:=Dl l i k) (n:=(WU (gE l i)).getD k []) (Nat.le_trans hdl hal) (QgW _ _ ha32)) ?_
        repeat refine o1 ?_
        refine Qt (k+1) ?_
        repeat refine o89 ?_
        trivial
       ·skip
        have c12:=h12
        (simp only [bsX] at c12)
        obtain rfl:k=(gE l i).length:=by omega
        repeat refine o4 ?_
        refine Qt (i+1) ?_
        repeat refine o90 ?_
        trivial
 ·skip
  have c1:=h1
  (simp only [bsX] at c1)
  have hz:pS l (i - 1)=(Qeh l).ps:=by show pS l (i - 1)=pS l (min (l.length - 1) 6);rw [show min (l.length - 1) 6=i - 1 from by omega]
  have hpo:Vz l i=(Qeh l).port:=by show Vz l i=Vz l l.length;rw [show i=l.length from by omega]
  repeat refine o84 ?_
  trivial
end
end Go.Proofs.YtcebndkiagbddaaGreatDoor
