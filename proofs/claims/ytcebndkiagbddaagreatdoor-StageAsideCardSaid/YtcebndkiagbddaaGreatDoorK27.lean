/- A part of the proof: contracts of functions and what they stand on. Written shorter and merged by a program (pack.py). -/
import Derived.Test.YtcebndkiagbddaaGreatDoorK23
set_option linter.unusedVariables false
set_option linter.unusedSimpArgs false
set_option maxRecDepth 100000
set_option maxHeartbeats 4000000
open List renaming length → Qy3, length_append → Qy4
open Nat renaming zero_le → Qy5
namespace Go.Proofs.YtcebndkiagbddaaGreatDoor
section
open Go.RowKit
theorem QeS (n:Int):J6 (Qlo n):=by
 have:=IntKind.wrap_i64 n;unfold Qlo;unfold J6;omega
theorem Qud {i:Nat} (h:i < 8):(pk (i:Int) 8).toNat=i:=by
 unfold pk;rw [decide_eq_false (by omega)];show ((i:Int) % 8).toNat=i;omega
theorem JV {i:Nat} (h:i < 8):Cf Tryz.prog 31 [] [.i (i:Int)] [] (.s (W5 i)):=by
 have e:QC (i:Int)=W5 i:=by unfold QC;rw [Qud h]
 rw [← e];exact Wg ⟨by omega,by omega⟩
abbrev Que (r:RawS):List UInt8:=if pk r.k 3=0 then W5 7 else []
abbrev mt (l:List RawS) (j:Nat):List (List Bool):=(QZ l j).1
abbrev pS (l:List RawS) (j:Nat):List PeerS:=(QZ l j).2
abbrev gt (l:List RawS) (i k:Nat):List (List Bool):=XT (rA l i) (QZ l (i - 1)).1 k
abbrev gE (l:List RawS) (i:Nat):List (List Bool):=gt l i (Yw (rA l i))
abbrev Dl (l:List RawS) (i k:Nat):List (List Bool):=((Zp (gE l i)).take k).foldl QI (mt l (i - 1)++gE l i)
abbrev Qaa (l:List RawS) (i:Nat):Int:=if i=0 then 0 else pk (rA l 0).a 65536
theorem Quf {r:RawS} {met:List (List Bool)} {k:Nat} (h:nsK r k ∉ met++XT r met k):XT r met (k+1)=XT r met k++[nsK r k]:=if_neg h
theorem Qug {r:RawS} {met:List (List Bool)} {k:Nat} (h:nsK r k∈met++XT r met k):XT r met (k+1)=XT r met k:=if_pos h
theorem Qc2 {l:List RawS} {i:Nat} (h1:1≤i) (h:0 < pk (rA l i).k 5):mt l i=mt l (i - 1)++gE l i∧pS l i=pS l (i - 1)++[QbF (rA l i) i (gE l i)]:=by
 obtain ⟨j,rfl⟩:∃ j,i=j+1:=⟨i - 1,by omega⟩;have e:QZ l (j+1)=_:=if_pos h;exact ⟨congrArg Prod.fst e,congrArg Prod.snd e⟩
theorem Qc3 {l:List RawS} {i:Nat} (h1:1≤i) (h:¬ 0 < pk (rA l i).k 5):mt l i=Dl l i (gE l i).length∧pS l i=pS l (i - 1):=by
 obtain ⟨j,rfl⟩:∃ j,i=j+1:=⟨i - 1,by omega⟩;have e:QZ l (j+1)=_:=if_neg h;refine ⟨?_,by show (QZ l (j+1)).2=(QZ l j).2;rw [e]⟩;have e2:=congrArg Prod.fst e;show (QZ l (j+1)).1=((Zp (gE l (j+1))).take (gE l (j+1)).length).foldl QI _;rw [List.take_of_length_le (by rw [Xf];exact Nat.le_refl _)];exact e2
theorem Qpo {l:List RawS} {i k:Nat} (hk:k < (gE l i).length):Dl l i (k+1)=QI (Dl l i k) ((Zp (gE l i)).getD k []):=by
 have hk2:k < (Zp (gE l i)).length:=by rw [Xf];exact hk
 show ((Zp (gE l i)).take (k+1)).foldl QI _=_;rw [List.take_succ_eq_append_getElem hk2,List.foldl_append,List.getD_eq_getElem?_getD,List.getElem?_eq_getElem hk2];rfl
theorem Yo {l:List RawS} (hl:∀ x∈l,x.inn) (hn:(l.length:Int)≤9223372036854775807):Cf Tryz.prog 16 [] [QR l] [] (Qp (Yj l)):=by
 refine QV {nl:=[(4,36,2)],nb:=[(1003,2,33,5),(1007,4,36,2)],wr:=[61,65],fk:=[92]} Tryz.func16 Tryz.ntmps16 ?_;refine clX (JV (i:=0) (by decide)) ?_
 repeat refine o0 ?_
 refine ⟨Nat,fun i=>⟨[(2,.own 1002 0),(3,.own 1003 0),(4,.osl 61 (mt l (i - 1)).length),(14,QR l),(15,.i (l.length:Int)),(16,.i (i:Int))],[(1002,.box [.s [],.i 0,.nil] 25),(1003,.box [.s (W5 0),.i (Qaa l i),.osl 701003 (pS l (i - 1)).length] 25),(701003,.rz (pS l (i - 1)).length 5 (fun a b=>Qk ((pS l (i - 1)).getD a Qa) b) 33 0),(61,.rz (mt l (i - 1)).length 2 (fun a b=>QL ((mt l (i - 1)).getD a []) b) 36 0)]⟩,fun i=>i≤l.length∧i≤7,fun i=>l.length - i,0,⟨Qy5 _,Qy5 _⟩,?_,fun i hx1=>?_⟩
 ·skip
  repeat refine o2 ?_
  trivial
 refine ⟨fun h1=>?_,fun h1=>?_⟩
 ·skip
  have c1:=h1
  (simp only [bsX] at c1)
  have hi:i < l.length:=by omega
  have hI:=Qge hl hi
  repeat refine o4 ?_
  refine ⟨fun h2=>?_,fun h2=>?_⟩
  ·skip
   have c2:=h2
   (simp only [bsX] at c2)
   have hi0:i=0:=by omega
   have hpt:pk (rA l i).a 65536=Qaa l (i+1):=by rw [hi0];rfl
   have eM:mt l (i - 1)=mt l (i+1 - 1):=by rw [hi0]
   have eP:pS l (i - 1)=pS l (i+1 - 1):=by rw [hi0]
   have hnx:i+1≤l.length∧i+1≤7:=⟨hi,by omega⟩;refine clX (Wh (n:=(rA l i).a) (m:=65536) hI.2.1.1 hI.2.1.2 (by decide)) ?_
   repeat refine o32 ?_
   refine Ql (i+1) ?_
   repeat (refine Ob.mk ?_ ?_;focus (first | (exact congrArg Qy3 eM) | (exact congrArg Qy3 eP) | (exact eqN eM) | (exact eqP eP) | (exact fun _ _ _ _=>rfl) | (exact hpt) | (exact Eq.refl _) | omega))
   trivial
  ·skip
   have c2:=h2
   (simp only [bsX] at c2)
   have h1i:1≤i:=by omega
   have hpt:Qaa l i=Qaa l (i+1):=(if_neg (by omega)).trans (if_neg (by omega)).symm;refine ⟨fun h3=>?_,fun h3=>?_⟩
   ·skip
    have c3:=h3
    (simp only [bsX] at c3)
    have hz:pS l (i - 1)=(Yj l).ps:=by show pS l (i - 1)=pS l (min (l.length - 1) 6);rw [show min (l.length - 1) 6=i - 1 from by omega]
    have hpo:Qaa l i=(Yj l).port:=(if_neg (by omega)).trans (if_neg (by omega)).symm
    repeat refine o100 ?_
    trivial
   ·skip
    have c3:=h3
    (simp only [bsX] at c3)
    have hj:i≤6:=by omega
    have hSt:=QdJ l (i - 1) (by omega);have hml:(mt l (i - 1)).length≤3 * (i - 1):=hSt.len;have eM0:mt l (i - 1)++gt l i 0=mt l (i - 1):=List.append_nil _;have hnx:i+1≤l.length∧i+1≤7:=⟨hi,by omega⟩;have hpl:(pS l (i - 1)).length≤i - 1:=hSt.pl;have g1:=Q0 (rA l i).a (m:=5) (by decide);have g2:=QW (rA l i).a (m:=5) (by decide);have g3:=Q0 (rA l i).k (m:=4) (by decide);have g4:=QW (rA l i).k (m:=4) (by decide);refine ⟨[0,1,0,4,15,31,0,64,63,319,1023,2047,4095,8191,0,32767],by kernel_rfl,?_⟩;refine clX (JV (i:=i) (by omega)) ?_
    repeat refine o0 ?_
    refine clX (Wh (n:=(rA l i).b) (m:=100) hI.2.2.1.1 hI.2.2.1.2 (by decide)) ?_
    repeat refine o0 ?_
    refine clX Zo ?_;refine clX Zo ?_;refine clX (Wh (n:=(rA l i).a) (m:=5) hI.2.1.1 hI.2.1.2 (by decide)) ?_
    repeat refine o32 ?_
    refine clX (Wh (n:=(rA l i).k) (m:=3) hI.1.1 hI.1.2 (by decide)) ?_
    repeat refine o0 ?_
    refine ⟨fun h4=>?_,fun h4=>?_⟩
    ·skip
     have c4:=h4
     (simp only [bsX] at c4)
     have hs:Que (rA l i)=W5 7:=if_pos c4;refine clX (JV (i:=7) (by decide)) ?_
     repeat refine o0 ?_
     refine clX (Wh (n:=(rA l i).k) (m:=4) hI.1.1 hI.1.2 (by decide)) ?_
     repeat refine o0 ?_
     refine ⟨Nat,fun k=>⟨[(2,.own 1002 0),(3,.own 1003 0),(4,.osl 61 (mt l (i - 1)++gt l i k).length),(5,.i (i:Int)),(6,.own 1006 0),(7,.own 1007 0),(14,QR l),(15,.i (l.length:Int)),(16,.i (i:Int)),(51,.i (pk (rA l i).k 4)),(52,.i (k:Int))],[(1002,.box [.s [],.i 0,.nil] 25),(1003,.box [.s (W5 0),.i (Qaa l i),.osl 701003 (pS l (i - 1)).length] 25),(701003,.rz (pS l (i - 1)).length 5 (fun a b=>Qk ((pS l (i - 1)).getD a Qa) b) 33 0),(61,.rz (mt l (i - 1)++gt l i k).length 2 (fun a b=>QL ((mt l (i - 1)++gt l i k).getD a []) b) 36 0),(1006,.box [.i (rA l i).k,.i (rA l i).a,.i (rA l i).b,.s (rA l i).s] 44),(1007,.box [.s (W5 i),.s (Que (rA l i)),.s (endL.getD (pk (rA l i).a 5).toNat []),.i (pk (rA l i).b 100),.osl 701007 (gt l i k).length] 33),(701007,.rz (gt l i k).length 2 (fun a b=>QL ((gt l i k).getD a []) b) 36 0)]⟩,fun k=>(k:Int)≤pk (rA l i).k 4,fun k=>(pk (rA l i).k 4).toNat - k,0,g3,?_,fun k hx2=>?_⟩
     ·skip
      repeat refine o101 ?_
      trivial
     refine ⟨fun h5=>?_,fun h5=>?_⟩
     ·skip
      have c5:=h5
      (simp only [bsX] at c5)
      have hk:(k:Int) < pk (rA l i).k 4:=by omega
      have hgl:(gt l i k).length≤k:=Xy (rA l i) (QZ l (i - 1)).1 k;have hal:(mt l (i - 1)++gt l i k).length≤1000:=by rw [Qy4];omega
      repeat refine o3 ?_
      refine clX (ZP (k:=(rA l i).k) (a:=Qlo ((rA l i).a+5 * (k:Int))) (b:=Qlo ((rA l i).b+(k:Int))) (s:=[]) hI.1 (QeS _) (QeS _)) ?_
      repeat refine o0 ?_
      refine clX (Qbi (ns:=mt l (i - 1)++gt l i k) (n:=nsK (rA l i) k) hal Yh) ?_
      repeat refine o2 ?_
      refine ⟨fun h6=>?_,fun h6=>?_⟩
      ·skip
       have c6:=h6
       (simp only [bsX] at c6)
       have hg:gt l i (k+1)=gt l i k++[nsK (rA l i) k]:=Quf c6;have hM:mt l (i - 1)++gt l i (k+1)=(mt l (i - 1)++gt l i k)++[nsK (rA l i) k]:=(congrArg (mt l (i - 1) ++ ·) hg).trans (List.append_assoc ..).symm;have hl1:(mt l (i - 1)++gt l i k).length+1=(mt l (i - 1)++gt l i (k+1)).length:=by rw [hM];simp [Nat.add_assoc]
       have hl2:(gt l i k).length+1=(gt l i (k+1)).length:=by rw [hg];simp
       repeat refine o33 ?_
       refine Ql (k+1) ?_
       repeat refine o102 ?_
       trivial
      ·skip
       have c6:=h6
       (simp only [bsX] at c6)
       have hg:gt l i k=gt l i (k+1):=(Qug c6).symm;have hM:mt l (i - 1)++gt l i k=mt l (i - 1)++gt l i (k+1):=congrArg (mt l (i - 1) ++ ·) hg;have hl1:=congrArg Qy3 hM;have hl2:=congrArg Qy3 hg
       repeat refine o3 ?_
       refine Ql (k+1) ?_
       repeat refine o103 ?_
       trivial
     ·skip
      have c5:=h5
      (simp only [bsX] at c5)
      obtain rfl:k=Yw (rA l i):=by unfold Yw;omega
      have hgl:(gE l i).length≤Yw (rA l i):=Xy (rA l i) (QZ l (i - 1)).1 (Yw (rA l i));have hg32:∀ n∈gE l i,n.length≤32:=QcN (rA l i) (QZ l (i - 1)).1 (Yw (rA l i));have hc3:Yw (rA l i)≤3:=by unfold Yw;omega
      have ha32:∀ n∈mt l (i - 1)++gE l i,n.length≤32:=fun n h=>(List.mem_append.1 h).elim (hSt.b32 n) (hg32 n);have hal:(mt l (i - 1)++gE l i).length≤1000:=by rw [Qy4];omega
      refine clX (Ql2 (ns:=gE l i) (by omega) hg32) ?_
      repeat refine o2 ?_
      refine clX (Wh (n:=(rA l i).k) (m:=5) hI.1.1 hI.1.2 (by decide)) ?_
      repeat refine o0 ?_
      refine ⟨fun h7=>?_,fun h7=>?_⟩
      ·skip
       have c7:=h7
       (simp only [bsX] at c7)
       have hcM:mt l (i - 1)++gE l i=mt l (i+1 - 1):=(Qc2 h1i c7).1.symm;have hcP:pS l (i+1 - 1)=pS l (i - 1)++[QbF (rA l i) i (gE l i)]:=(Qc2 h1i c7).2;have hcl:(pS l (i - 1)).length+1=(pS l (i+1 - 1)).length:=by rw [hcP];simp
       repeat refine o33 ?_
       refine Ql (i+1) ?_
       repeat refine o104 ?_
       trivial
      ·skip
       have c7:=h7
       (simp only [bsX] at c7)
       have hcM:Dl l i (gE l i).length=mt l (i+1 - 1):=(Qc3 h1i c7).1.symm;have hcP:pS l (i - 1)=pS l (i+1 - 1):=(Qc3 h1i c7).2.symm;have hcl:=congrArg Qy3 hcP;refine ⟨Nat,fun k=>⟨[(2,.own 1002 0),(3,.own 1003 0),(4,.osl 61 (Dl l i k).length),(14,QR l),(15,.i (l.length:Int)),(16,.i (i:Int)),(97,.osl 701007 (gE l i).length),(98,.i ((gE l i).length:Int)),(99,.i (k:Int))],[(1002,.box [.s [],.i 0,.nil] 25),(1003,.box [.s (W5 0),.i (Qaa l i),.osl 701003 (pS l (i - 1)).length] 25),(701003,.rz (pS l (i - 1)).length 5 (fun a b=>Qk ((pS l (i - 1)).getD a Qa) b) 33 0),(61,.rz (Dl l i k).length 2 (fun a b=>QL ((Dl l i k).getD a []) b) 36 0),(701007,.rz (gE l i).length 2 (fun a b=>QL ((Zp (gE l i)).getD a []) b) 36 0)]⟩,fun k=>k≤(gE l i).length,fun k=>(gE l i).length - k,0,Qy5 _,?_,fun k hx3=>?_⟩
       ·skip
        repeat refine o2 ?_
        trivial
       refine ⟨fun h8=>?_,fun h8=>?_⟩
       ·skip
        have c8:=h8
        (simp only [bsX] at c8)
        have hk:k < (gE l i).length:=by omega
        have hD:=Qpo hk;have hdl:=QcO ((Zp (gE l i)).take k) (mt l (i - 1)++gE l i)
        repeat refine o4 ?_
        refine clX (Qo4 (ns:=Dl l i k) (n:=(Zp (gE l i)).getD k []) (Nat.le_trans hdl hal) (Qje _ _ ha32)) ?_
        repeat refine o2 ?_
        refine Ql (k+1) ?_
        repeat refine o105 ?_
        trivial
       ·skip
        have c8:=h8
        (simp only [bsX] at c8)
        obtain rfl:k=(gE l i).length:=by omega
        repeat refine o3 ?_
        refine Ql (i+1) ?_
        repeat refine o106 ?_
        trivial
    ·skip
     have c4:=h4
     (simp only [bsX] at c4)
     have hs:Que (rA l i)=[]:=if_neg c4;refine clX (Wh (n:=(rA l i).k) (m:=4) hI.1.1 hI.1.2 (by decide)) ?_
     repeat refine o0 ?_
     refine ⟨Nat,fun k=>⟨[(2,.own 1002 0),(3,.own 1003 0),(4,.osl 61 (mt l (i - 1)++gt l i k).length),(5,.i (i:Int)),(6,.own 1006 0),(7,.own 1007 0),(14,QR l),(15,.i (l.length:Int)),(16,.i (i:Int)),(51,.i (pk (rA l i).k 4)),(52,.i (k:Int))],[(1002,.box [.s [],.i 0,.nil] 25),(1003,.box [.s (W5 0),.i (Qaa l i),.osl 701003 (pS l (i - 1)).length] 25),(701003,.rz (pS l (i - 1)).length 5 (fun a b=>Qk ((pS l (i - 1)).getD a Qa) b) 33 0),(61,.rz (mt l (i - 1)++gt l i k).length 2 (fun a b=>QL ((mt l (i - 1)++gt l i k).getD a []) b) 36 0),(1006,.box [.i (rA l i).k,.i (rA l i).a,.i (rA l i).b,.s (rA l i).s] 44),(1007,.box [.s (W5 i),.s (Que (rA l i)),.s (endL.getD (pk (rA l i).a 5).toNat []),.i (pk (rA l i).b 100),.osl 701007 (gt l i k).length] 33),(701007,.rz (gt l i k).length 2 (fun a b=>QL ((gt l i k).getD a []) b) 36 0)]⟩,fun k=>(k:Int)≤pk (rA l i).k 4,fun k=>(pk (rA l i).k 4).toNat - k,0,g3,?_,fun k hx2=>?_⟩
     ·skip
      repeat refine o101 ?_
      trivial
     refine ⟨fun h9=>?_,fun h9=>?_⟩
     ·skip
      have c9:=h9
      (simp only [bsX] at c9)
      have hk:(k:Int) < pk (rA l i).k 4:=by omega
      have hgl:(gt l i k).length≤k:=Xy (rA l i) (QZ l (i - 1)).1 k;have hal:(mt l (i - 1)++gt l i k).length≤1000:=by rw [Qy4];omega
      repeat refine o3 ?_
      refine clX (ZP (k:=(rA l i).k) (a:=Qlo ((rA l i).a+5 * (k:Int))) (b:=Qlo ((rA l i).b+(k:Int))) (s:=[]) hI.1 (QeS _) (QeS _)) ?_
      repeat refine o0 ?_
      refine clX (Qbi (ns:=mt l (i - 1)++gt l i k) (n:=nsK (rA l i) k) hal Yh) ?_
      repeat refine o2 ?_
      refine ⟨fun h10=>?_,fun h10=>?_⟩
      ·skip
       have c10:=h10
       (simp only [bsX] at c10)
       have hg:gt l i (k+1)=gt l i k++[nsK (rA l i) k]:=Quf c10;have hM:mt l (i - 1)++gt l i (k+1)=(mt l (i - 1)++gt l i k)++[nsK (rA l i) k]:=(congrArg (mt l (i - 1) ++ ·) hg).trans (List.append_assoc ..).symm;have hl1:(mt l (i - 1)++gt l i k).length+1=(mt l (i - 1)++gt l i (k+1)).length:=by rw [hM];simp [Nat.add_assoc]
       have hl2:(gt l i k).length+1=(gt l i (k+1)).length:=by rw [hg];simp
       repeat refine o33 ?_
       refine Ql (k+1) ?_
       repeat refine o102 ?_
       trivial
      ·skip
       have c10:=h10
       (simp only [bsX] at c10)
       have hg:gt l i k=gt l i (k+1):=(Qug c10).symm;have hM:mt l (i - 1)++gt l i k=mt l (i - 1)++gt l i (k+1):=congrArg (mt l (i - 1) ++ ·) hg;have hl1:=congrArg Qy3 hM;have hl2:=congrArg Qy3 hg
       repeat refine o3 ?_
       refine Ql (k+1) ?_
       repeat refine o103 ?_
       trivial
     ·skip
      have c9:=h9
      (simp only [bsX] at c9)
      obtain rfl:k=Yw (rA l i):=by unfold Yw;omega
      have hgl:(gE l i).length≤Yw (rA l i):=Xy (rA l i) (QZ l (i - 1)).1 (Yw (rA l i));have hg32:∀ n∈gE l i,n.length≤32:=QcN (rA l i) (QZ l (i - 1)).1 (Yw (rA l i));have hc3:Yw (rA l i)≤3:=by unfold Yw;omega
      have ha32:∀ n∈mt l (i - 1)++gE l i,n.length≤32:=fun n h=>(List.mem_append.1 h).elim (hSt.b32 n) (hg32 n);have hal:(mt l (i - 1)++gE l i).length≤1000:=by rw [Qy4];omega
      refine clX (Ql2 (ns:=gE l i) (by omega) hg32) ?_
      repeat refine o2 ?_
      refine clX (Wh (n:=(rA l i).k) (m:=5) hI.1.1 hI.1.2 (by decide)) ?_
      repeat refine o0 ?_
      refine ⟨fun h11=>?_,fun h11=>?_⟩
      ·skip
       have c11:=h11
       (simp only [bsX] at c11)
       have hcM:mt l (i - 1)++gE l i=mt l (i+1 - 1):=(Qc2 h1i c11).1.symm;have hcP:pS l (i+1 - 1)=pS l (i - 1)++[QbF (rA l i) i (gE l i)]:=(Qc2 h1i c11).2;have hcl:(pS l (i - 1)).length+1=(pS l (i+1 - 1)).length:=by rw [hcP];simp
       repeat refine o33 ?_
       refine Ql (i+1) ?_
       repeat refine o104 ?_
       trivial
      ·skip
       have c11:=h11
       (simp only [bsX] at c11)
       have hcM:Dl l i (gE l i).length=mt l (i+1 - 1):=(Qc3 h1i c11).1.symm;have hcP:pS l (i - 1)=pS l (i+1 - 1):=(Qc3 h1i c11).2.symm;have hcl:=congrArg Qy3 hcP;refine ⟨Nat,fun k=>⟨[(2,.own 1002 0),(3,.own 1003 0),(4,.osl 61 (Dl l i k).length),(14,QR l),(15,.i (l.length:Int)),(16,.i (i:Int)),(97,.osl 701007 (gE l i).length),(98,.i ((gE l i).length:Int)),(99,.i (k:Int))],[(1002,.box [.s [],.i 0,.nil] 25),(1003,.box [.s (W5 0),.i (Qaa l i),.osl 701003 (pS l (i - 1)).length] 25),(701003,.rz (pS l (i - 1)).length 5 (fun a b=>Qk ((pS l (i - 1)).getD a Qa) b) 33 0),(61,.rz (Dl l i k).length 2 (fun a b=>QL ((Dl l i k).getD a []) b) 36 0),(701007,.rz (gE l i).length 2 (fun a b=>QL ((Zp (gE l i)).getD a []) b) 36 0)]⟩,fun k=>k≤(gE l i).length,fun k=>(gE l i).length - k,0,Qy5 _,?_,fun k hx3=>?_⟩
       ·skip
        repeat refine o2 ?_
        trivial
       refine ⟨fun h12=>?_,fun h12=>?_⟩
       ·skip
        have c12:=h12
        (simp only [bsX] at c12)
        have hk:k < (gE l i).length:=by omega
        have hD:=Qpo hk;have hdl:=QcO ((Zp (gE l i)).take k) (mt l (i - 1)++gE l i)
        repeat refine o4 ?_
        refine clX (Qo4 (ns:=Dl l i k) (n:=(Zp (gE l i)).getD k []) (Nat.le_trans hdl hal) (Qje _ _ ha32)) ?_
        repeat refine o2 ?_
        refine Ql (k+1) ?_
        repeat refine o105 ?_
        trivial
       ·skip
        have c12:=h12
        (simp only [bsX] at c12)
        obtain rfl:k=(gE l i).length:=by omega
        repeat refine o3 ?_
        refine Ql (i+1) ?_
        repeat refine o106 ?_
        trivial
 ·skip
  have c1:=h1
  (simp only [bsX] at c1)
  have hz:pS l (i - 1)=(Yj l).ps:=by show pS l (i - 1)=pS l (min (l.length - 1) 6);rw [show min (l.length - 1) 6=i - 1 from by omega]
  have hpo:Qaa l i=(Yj l).port:=by show Qaa l i=Qaa l l.length;rw [show i=l.length from by omega]
  repeat refine o100 ?_
  trivial
end
end Go.Proofs.YtcebndkiagbddaaGreatDoor
