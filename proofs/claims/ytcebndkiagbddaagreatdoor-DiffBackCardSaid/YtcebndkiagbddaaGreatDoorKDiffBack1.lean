/- DiffBack: applying the difference of two configurations to the first one yields the second one: the statement holds of the program, for every input. No further condition. -/
import Derived.Test.YtcebndkiagbddaaGreatDoorTie
import Derived.Test.YtcebndkiagbddaaGreatDoorCards
import Derived.Lay
import Derived.SevenTiedAt
import Derived.MakeChecks
import Derived.Lib.LaidTab
import Derived.Stop.LaidErr
import Derived.Test.YtcebndkiagbddaaGreatDoorKDiffBack0
import Derived.Test.YtcebndkiagbddaaGreatDoorK44
set_option linter.unusedVariables false
set_option linter.unusedSimpArgs false
set_option maxRecDepth 100000
set_option maxHeartbeats 4000000
open List renaming append_nil → Qy3, length_append → Qy4, mem_singleton → Qy5, mem_map → Qy6, mem_append → Qy7, take_length → Qy9, getD_eq_getElem?_getD → Qzb, length_cons → Qzd, flatMap_append → Qze, append_assoc → Qzf, mem_filter → Qzg, mem_of_mem_take → Qzi, mem_cons → Qzj
open Nat renaming le_refl → Qy8, le_of_ble_eq_true → Qza, zero_le → Qzc
open Option renaming some → Qzh
namespace Go.Proofs.YtcebndkiagbddaaGreatDoor
section
open Go.RowKit Go.Lib
def d4 (a:ConfS) (q:PeerS):List SetS:=if fE a.ps q.k≠0∨QaO (fP a.ps q.k) q=true then WQ q else chP (fP a.ps q.k) q
def dA (a b:ConfS) (i:Nat):List SetS:=(a.ps.take i).flatMap (d1 b)
def dB (a b:ConfS) (i:Nat):List SetS:=(dA a b a.ps.length++d2 a b++d3 a b)++(b.ps.take i).flatMap (d4 a)
def QbI (a b:ConfS):List SetS:=dB a b b.ps.length
theorem QjH {a b:ConfS} {i:Nat} (hi:i < a.ps.length):dA a b (i+1)=dA a b i++d1 b (pA a i):=by
 unfold dA;rw [QeL hi,Qze];simp
theorem Qdc {a b:ConfS} {i:Nat} (hi:i < b.ps.length):dB a b (i+1)=dB a b i++d4 a (pA b i):=by
 unfold dB;rw [QeL hi,Qze,Qzf];simp
theorem QjI {a b:ConfS}:∀ i,i≤a.ps.length→(dA a b i).length≤2 * i
 | 0,_=>Qy8 _
 | i+1,hi=>by
  rw [QjH (by omega),Qy4];have:=QjI (a:=a) (b:=b) i (by omega)
  have:(d1 b (pA a i)).length≤2:=by
   unfold d1;split <;> simp
  omega
theorem Qxa {p q:PeerS}:(chP p q).length≤5+q.ns.length:=by
 unfold chP;split
 ·exact Qzc _
 ·unfold chO;split
  ·have:=QjF p q;rw [Qzd];omega
  ·have:=(Zd (p:=p) (q:=q) q.ns.length).2;rw [Qzd];omega
theorem Y1 {a b:ConfS} (ha:ConfOk a) (hb:ConfOk b):∀ i,i≤b.ps.length→(dB a b i).length≤14+13 * i
 | 0,_=>by
  have h1:=QjI (a:=a) (b:=b) a.ps.length (Qy8 _);have h2:=ha.pl;show ((dA a b a.ps.length++d2 a b++d3 a b)++[]).length≤14;rw [Qy3,Qy4,Qy4];have h3:(d2 a b).length≤1:=by unfold d2;split <;> simp
  have h4:(d3 a b).length≤1:=by unfold d3;split <;> simp
  omega
 | i+1,hi=>by
  rw [Qdc (by omega),Qy4];have h1:=Y1 ha hb i (by omega);have h2:=(hb.ps _ (QY (c:=b) (i:=i) (by omega))).1.nl
  have h3:(d4 a (pA b i)).length≤13:=by
   unfold d4;split
   ·have:=WS (p:=pA b i) (pA b i).ns.length;show (shP (pA b i) (pA b i).ns.length).length≤_;omega
   ·have:=Qxa (p:=fP a.ps (pA b i).k) (q:=pA b i);omega
  omega
theorem QyX {n:Nat} {L M:List SetS} {s u:SetS} {f:Nat→Nat→EV} {X:List EV} (hf:∀ a,a < n → ∀ j,j < 5→f a j=stQ L a j) (hX:X=[stq s 0,stq s 1,stq s 2,stq s 3,stq s 4,stq u 0,stq u 1,stq u 2,stq u 3,stq u 4]) (hn:L.length=n) (hM:M=L++[s,u]) :
  ∀ a,a < n+2 → ∀ j,j < 5→(bif Nat.blt a n then f a j else X.getD ((a - n) * 5+j) .any)=stQ M a j:=by
 subst hX hM hn;intro a ha j hj;by_cases hq:a < L.length
 ·have:Nat.blt a L.length=true:=by simpa [Nat.blt_eq] using hq
  rw [this];refine (hf a hq j hj).trans ?_;show stq (L.getD a Qm) j=stq ((L++[s,u]).getD a Qm) j;rw [Qzb,Qzb,List.getElem?_append_left hq]
 ·have:Nat.blt a L.length=false:=by cases hb:Nat.blt a L.length with | false=>rfl | true=>(rw [Nat.blt_eq] at hb;omega)
  rw [this];show _=stq ((L++[s,u]).getD a Qm) j;rw [Qzb (l:=L++[s,u]),List.getElem?_append_right (by omega)];have ha2:a - L.length=0∨a - L.length=1:=by omega
  have:j=0∨j=1∨j=2∨j=3∨j=4:=by omega
  rcases ha2 with e | e <;> rw [e] <;> rcases this with rfl | rfl | rfl | rfl | rfl <;> rfl
theorem Qbu {p:PeerS} (h:PeerOk p):Cf Tryz.prog 84 [] [ZS p] [] (.tup [.lz (WQ p).length 5 (stQ (WQ p)),.i 0]):=by
 have hnl:=h.nl;refine Qs {} Tryz.func84 Tryz.ntmps84 ?_;refine clX (QdL h) ?_
 repeat refine o7 ?_
 refine knF ?_;refine clX (Xm (p:=p) (by omega)) ?_
 repeat refine o7 ?_
 trivial
theorem QyY {a b:ConfS} (ha:ConfOk a) (hb:ConfOk b) (hk:a.k=[]∨b.k≠[]):Cf Tryz.prog 41 [] [Qp a,Qp b] [] (.tup [.lz (QbI a b).length 5 (stQ (QbI a b)),.i 0]):=by
 have hC0:=Qh ha;have hC1:=Qh hb;have hpa:=ha.pl;have hpb:=hb.pl;refine QV {nl:=[(9,48,5)],fz:=[138]} Tryz.func41 Tryz.ntmps41 ?_;refine ⟨Nat,fun i=>⟨[(2,.own 1002 0),(3,.own 1003 0),(22,.agg [.s a.k,.i a.port,Qo a.ps,.s b.k,.i b.port,Qo b.ps]),(23,.i (i:Int))],[(1002,.box [.s a.k,.i a.port,Qo a.ps] 25),(1003,.box [.s b.k,.i b.port,Qo b.ps] 25)]⟩,fun i=>i≤2,fun i=>2 - i,0,by decide,?_,fun i hx1=>?_⟩
 ·skip
  repeat refine o1 ?_
  trivial
 refine ⟨fun h1=>?_,fun h1=>?_⟩
 ·skip
  have c1:=h1
  (simp only [bsX] at c1)
  rcases (by omega:i=0∨i=1) with rfl | rfl
  ·skip
   repeat refine o3 ?_
   refine clX hC0 ?_
   repeat refine o1 ?_
   refine knF ?_
   repeat refine o3 ?_
   refine ⟨0+1,(by omega),(by (exact Qza rfl)),?_⟩
   repeat refine o1 ?_
   trivial
  ·skip
   repeat refine o3 ?_
   refine clX hC1 ?_
   repeat refine o1 ?_
   refine knF ?_
   repeat refine o3 ?_
   refine ⟨1+1,(by omega),(by (exact Qza rfl)),?_⟩
   repeat refine o1 ?_
   trivial
 ·skip
  have c1:=h1
  (simp only [bsX] at c1)
  repeat refine o19 ?_
  refine ⟨fun h4=>?_,fun h4=>?_⟩
  ·skip
   have c4:=h4
   (simp only [bsX] at c4)
   exact absurd c4 (by rcases hk with h | h <;> simp [h])
  ·skip
   have c4:=h4
   (simp only [bsX] at c4)
   refine ⟨Nat,fun i=>⟨[(2,.own 1002 0),(3,.own 1003 0),(9,.osl 61 (dA a b i).length),(41,Qo a.ps),(42,.i (a.ps.length:Int)),(43,.i (i:Int))],[(1002,.box [.s a.k,.i a.port,Qo a.ps] 25),(1003,.box [.s b.k,.i b.port,Qo b.ps] 25),(61,.rz (dA a b i).length 5 (stQ (dA a b i)) 48 0)]⟩,fun i=>i≤a.ps.length,fun i=>a.ps.length - i,0,Qzc _,?_,fun i hx2=>?_⟩
   ·skip
    repeat refine o2 ?_
    trivial
   refine ⟨fun h5=>?_,fun h5=>?_⟩
   ·skip
    have c5:=h5
    (simp only [bsX] at c5)
    have hi:i < a.ps.length:=by omega
    have hdl:=QjI (a:=a) (b:=b) i (by omega);have hM:=QjH (b:=b) hi
    repeat refine o4 ?_
    refine clX (Qa2 (c:=b) (k:=(pA a i).k) hb) ?_
    repeat refine o1 ?_
    refine ⟨[0,1,3,7,7,23,7,119,247,511,1023],by kernel_rfl,?_⟩
    repeat refine o58 ?_
    refine gx (fun hc=>(Qdb (p:=pA a i) (q:=fP b.ps (pA a i).k))) (fun hk=>⟨hk,?_⟩)
    repeat refine o59 ?_
    refine ⟨fun h6=>?_,fun h6=>?_⟩
    ·skip
     have c6:=h6
     (simp only [bsX] at c6)
     have h1:d1 b (pA a i)=[⟨4,(pA a i).k,0,[]⟩,⟨5,[],0,[]⟩]:=if_pos c6;rw [h1] at hM;have hl1:(dA a b i).length+2=(dA a b (i+1)).length:=by rw [hM];simp
     repeat refine o33 ?_
     refine Ql (i+1) ?_
     repeat (refine Ob.mk ?_ ?_;focus (first | (exact hl1) | (exact QyX (L:=dA a b i) (s:=⟨4,(pA a i).k,0,[]⟩) (u:=⟨5,[],0,[]⟩) (fun _ _ _ _=>rfl) rfl rfl hM) | (exact fun _ _ _ _=>rfl) | (exact Eq.refl _) | (exact Qza rfl)))
     trivial
    ·skip
     have c6:=h6
     (simp only [bsX] at c6)
     have h1:d1 b (pA a i)=[]:=if_neg (by rintro (h | h);exact h (c6).1;exact absurd (h.symm.trans (c6).2) (by decide));rw [h1,Qy3] at hM;have hl1:(dA a b i).length=(dA a b (i+1)).length:=by rw [hM]
     repeat refine o3 ?_
     refine Ql (i+1) ?_
     repeat (refine Ob.mk ?_ ?_;focus (first | (exact hl1) | (exact hM ▸ fun _ _ _ _=>rfl) | (exact fun _ _ _ _=>rfl) | (exact Eq.refl _) | omega))
     trivial
   ·skip
    have c5:=h5
    (simp only [bsX] at c5)
    obtain rfl:i=a.ps.length:=by omega
    have hdl:=QjI (a:=a) (b:=b) a.ps.length (Qy8 _);refine ⟨fun h7=>?_,fun h7=>?_⟩
    ·skip
     have c7:=h7
     (simp only [bsX] at c7)
     have e2:d2 a b=[⟨1,b.k,0,[]⟩]:=if_neg c7
     repeat refine o81 ?_
     refine ⟨fun h8=>?_,fun h8=>?_⟩
     ·skip
      have c8:=h8
      (simp only [bsX] at c8)
      have e3:d3 a b=[⟨2,[],b.port,[]⟩]:=if_neg c8
      repeat refine o81 ?_
      have eB:dB a b 0=dA a b a.ps.length++d2 a b++d3 a b:=Qy3 _;rw [e2,e3] at eB
      try simp only [Qy3] at eB
      refine ⟨Nat,fun i=>⟨[(2,.own 1002 0),(3,.own 1003 0),(9,.osl 61 (dB a b i).length),(96,Qo b.ps),(97,.i (b.ps.length:Int)),(98,.i (i:Int))],[(1002,.box [.s a.k,.i a.port,Qo a.ps] 25),(1003,.box [.s b.k,.i b.port,Qo b.ps] 25),(61,.rz (dB a b i).length 5 (stQ (dB a b i)) 48 0)]⟩,fun i=>i≤b.ps.length,fun i=>b.ps.length - i,0,Qzc _,?_,fun i hx3=>?_⟩
      ·skip
       repeat (refine Ob.mk ?_ ?_;focus (first | (exact fun _ _ _ _=>rfl) | (rw [eB,Qy4,Qy4];rfl) | (rw [eB];exact QnS rfl (QnS rfl (fun _ _ _ _=>rfl) rfl rfl) rfl (Qy4 ..)) | (exact Eq.refl _) | (exact Qza rfl)))
       trivial
      refine ⟨fun h9=>?_,fun h9=>?_⟩
      ·skip
       have c9:=h9
       (simp only [bsX] at c9)
       have hi:i < b.ps.length:=by omega
       have hdl:=Y1 ha hb i (by omega);have hdl1:=Y1 ha hb (i+1) hi;have hM:=Qdc (a:=a) hi;have hl1:(dB a b i).length+(d4 a (pA b i)).length=(dB a b (i+1)).length:=by rw [hM];simp
       repeat refine o4 ?_
       refine clX (Qa2 (c:=a) (k:=(pA b i).k) ha) ?_
       repeat refine o1 ?_
       refine ⟨[0,1,3,7,15,7,63,127,7,511,1023],by kernel_rfl,?_⟩
       repeat refine o58 ?_
       refine gx (fun hc=>(Qdb (p:=fP a.ps (pA b i).k) (q:=pA b i))) (fun hk=>⟨hk,?_⟩)
       repeat refine o59 ?_
       refine ⟨fun h10=>?_,fun h10=>?_⟩
       ·skip
        have c10:=h10
        (simp only [bsX] at c10)
        have h4:d4 a (pA b i)=WQ (pA b i):=if_pos c10;rw [h4] at hM hl1;refine clX (Qbu (p:=pA b i) (hb.ps _ (QY hi)).1) ?_
        repeat refine o23 ?_
        refine Ql (i+1) ?_
        repeat refine o27 ?_
        trivial
       ·skip
        have c10:=h10
        (simp only [bsX] at c10)
        have hfe:=(c10).1;have hfi:=QgT hfe;have h4:d4 a (pA b i)=chP (fP a.ps (pA b i).k) (pA b i):=if_neg (by rintro (h | h);exact h (c10).1;exact absurd (h.symm.trans (c10).2) (by decide));rw [h4] at hM hl1;refine ⟨[0,0,2,0,14,30,0,126,255,511],by kernel_rfl,?_⟩
        repeat refine o3 ?_
        refine clX (J1 (p:=fP a.ps (pA b i).k) (q:=pA b i) (ha.ps _ hfi.2.2.2.1).1 (hb.ps _ (QY hi)).1) ?_
        repeat refine o23 ?_
        refine Ql (i+1) ?_
        repeat refine o27 ?_
        trivial
      ·skip
       have c9:=h9
       (simp only [bsX] at c9)
       obtain rfl:i=b.ps.length:=by omega
       have hdl:=Y1 ha hb b.ps.length (Qy8 _)
       repeat refine o31 ?_
       trivial
     ·skip
      have c8:=h8
      (simp only [bsX] at c8)
      have e3:d3 a b=[]:=if_pos (by simpa using h8);have eB:dB a b 0=dA a b a.ps.length++d2 a b++d3 a b:=Qy3 _;rw [e2,e3] at eB
      try simp only [Qy3] at eB
      refine ⟨Nat,fun i=>⟨[(2,.own 1002 0),(3,.own 1003 0),(9,.osl 61 (dB a b i).length),(96,Qo b.ps),(97,.i (b.ps.length:Int)),(98,.i (i:Int))],[(1002,.box [.s a.k,.i a.port,Qo a.ps] 25),(1003,.box [.s b.k,.i b.port,Qo b.ps] 25),(61,.rz (dB a b i).length 5 (stQ (dB a b i)) 48 0)]⟩,fun i=>i≤b.ps.length,fun i=>b.ps.length - i,0,Qzc _,?_,fun i hx3=>?_⟩
      ·skip
       repeat refine o117 ?_
       trivial
      refine ⟨fun h11=>?_,fun h11=>?_⟩
      ·skip
       have c11:=h11
       (simp only [bsX] at c11)
       have hi:i < b.ps.length:=by omega
       have hdl:=Y1 ha hb i (by omega);have hdl1:=Y1 ha hb (i+1) hi;have hM:=Qdc (a:=a) hi;have hl1:(dB a b i).length+(d4 a (pA b i)).length=(dB a b (i+1)).length:=by rw [hM];simp
       repeat refine o4 ?_
       refine clX (Qa2 (c:=a) (k:=(pA b i).k) ha) ?_
       repeat refine o1 ?_
       refine ⟨[0,1,3,7,15,7,63,127,7,511,1023],by kernel_rfl,?_⟩
       repeat refine o58 ?_
       refine gx (fun hc=>(Qdb (p:=fP a.ps (pA b i).k) (q:=pA b i))) (fun hk=>⟨hk,?_⟩)
       repeat refine o59 ?_
       refine ⟨fun h12=>?_,fun h12=>?_⟩
       ·skip
        have c12:=h12
        (simp only [bsX] at c12)
        have h4:d4 a (pA b i)=WQ (pA b i):=if_pos c12;rw [h4] at hM hl1;refine clX (Qbu (p:=pA b i) (hb.ps _ (QY hi)).1) ?_
        repeat refine o23 ?_
        refine Ql (i+1) ?_
        repeat refine o27 ?_
        trivial
       ·skip
        have c12:=h12
        (simp only [bsX] at c12)
        have hfe:=(c12).1;have hfi:=QgT hfe;have h4:d4 a (pA b i)=chP (fP a.ps (pA b i).k) (pA b i):=if_neg (by rintro (h | h);exact h (c12).1;exact absurd (h.symm.trans (c12).2) (by decide));rw [h4] at hM hl1;refine ⟨[0,0,2,0,14,30,0,126,255,511],by kernel_rfl,?_⟩
        repeat refine o3 ?_
        refine clX (J1 (p:=fP a.ps (pA b i).k) (q:=pA b i) (ha.ps _ hfi.2.2.2.1).1 (hb.ps _ (QY hi)).1) ?_
        repeat refine o23 ?_
        refine Ql (i+1) ?_
        repeat refine o27 ?_
        trivial
      ·skip
       have c11:=h11
       (simp only [bsX] at c11)
       obtain rfl:i=b.ps.length:=by omega
       have hdl:=Y1 ha hb b.ps.length (Qy8 _)
       repeat refine o31 ?_
       trivial
    ·skip
     have c7:=h7
     (simp only [bsX] at c7)
     have e2:d2 a b=[]:=if_pos (by simpa using h7);refine ⟨fun h13=>?_,fun h13=>?_⟩
     ·skip
      have c13:=h13
      (simp only [bsX] at c13)
      have e3:d3 a b=[⟨2,[],b.port,[]⟩]:=if_neg c13
      repeat refine o81 ?_
      have eB:dB a b 0=dA a b a.ps.length++d2 a b++d3 a b:=Qy3 _;rw [e2,e3] at eB
      try simp only [Qy3] at eB
      refine ⟨Nat,fun i=>⟨[(2,.own 1002 0),(3,.own 1003 0),(9,.osl 61 (dB a b i).length),(96,Qo b.ps),(97,.i (b.ps.length:Int)),(98,.i (i:Int))],[(1002,.box [.s a.k,.i a.port,Qo a.ps] 25),(1003,.box [.s b.k,.i b.port,Qo b.ps] 25),(61,.rz (dB a b i).length 5 (stQ (dB a b i)) 48 0)]⟩,fun i=>i≤b.ps.length,fun i=>b.ps.length - i,0,Qzc _,?_,fun i hx3=>?_⟩
      ·skip
       repeat refine o117 ?_
       trivial
      refine ⟨fun h14=>?_,fun h14=>?_⟩
      ·skip
       have c14:=h14
       (simp only [bsX] at c14)
       have hi:i < b.ps.length:=by omega
       have hdl:=Y1 ha hb i (by omega);have hdl1:=Y1 ha hb (i+1) hi;have hM:=Qdc (a:=a) hi;have hl1:(dB a b i).length+(d4 a (pA b i)).length=(dB a b (i+1)).length:=by rw [hM];simp
       repeat refine o4 ?_
       refine clX (Qa2 (c:=a) (k:=(pA b i).k) ha) ?_
       repeat refine o1 ?_
       refine ⟨[0,1,3,7,15,7,63,127,7,511,1023],by kernel_rfl,?_⟩
       repeat refine o58 ?_
       refine gx (fun hc=>(Qdb (p:=fP a.ps (pA b i).k) (q:=pA b i))) (fun hk=>⟨hk,?_⟩)
       repeat refine o59 ?_
       refine ⟨fun h15=>?_,fun h15=>?_⟩
       ·skip
        have c15:=h15
        (simp only [bsX] at c15)
        have h4:d4 a (pA b i)=WQ (pA b i):=if_pos c15;rw [h4] at hM hl1;refine clX (Qbu (p:=pA b i) (hb.ps _ (QY hi)).1) ?_
        repeat refine o23 ?_
        refine Ql (i+1) ?_
        repeat refine o27 ?_
        trivial
       ·skip
        have c15:=h15
        (simp only [bsX] at c15)
        have hfe:=(c15).1;have hfi:=QgT hfe;have h4:d4 a (pA b i)=chP (fP a.ps (pA b i).k) (pA b i):=if_neg (by rintro (h | h);exact h (c15).1;exact absurd (h.symm.trans (c15).2) (by decide));rw [h4] at hM hl1;refine ⟨[0,0,2,0,14,30,0,126,255,511],by kernel_rfl,?_⟩
        repeat refine o3 ?_
        refine clX (J1 (p:=fP a.ps (pA b i).k) (q:=pA b i) (ha.ps _ hfi.2.2.2.1).1 (hb.ps _ (QY hi)).1) ?_
        repeat refine o23 ?_
        refine Ql (i+1) ?_
        repeat refine o27 ?_
        trivial
      ·skip
       have c14:=h14
       (simp only [bsX] at c14)
       obtain rfl:i=b.ps.length:=by omega
       have hdl:=Y1 ha hb b.ps.length (Qy8 _)
       repeat refine o31 ?_
       trivial
     ·skip
      have c13:=h13
      (simp only [bsX] at c13)
      have e3:d3 a b=[]:=if_pos (by simpa using h13);have eB:dB a b 0=dA a b a.ps.length++d2 a b++d3 a b:=Qy3 _;rw [e2,e3] at eB
      try simp only [Qy3] at eB
      refine ⟨Nat,fun i=>⟨[(2,.own 1002 0),(3,.own 1003 0),(9,.osl 61 (dB a b i).length),(96,Qo b.ps),(97,.i (b.ps.length:Int)),(98,.i (i:Int))],[(1002,.box [.s a.k,.i a.port,Qo a.ps] 25),(1003,.box [.s b.k,.i b.port,Qo b.ps] 25),(61,.rz (dB a b i).length 5 (stQ (dB a b i)) 48 0)]⟩,fun i=>i≤b.ps.length,fun i=>b.ps.length - i,0,Qzc _,?_,fun i hx3=>?_⟩
      ·skip
       repeat (refine Ob.mk ?_ ?_;focus (first | (exact fun _ _ _ _=>rfl) | (exact Eq.refl _) | omega | (intro hg;((intro hq;((simp_all;done))))) | (simp_all;done)))
       trivial
      refine ⟨fun h16=>?_,fun h16=>?_⟩
      ·skip
       have c16:=h16
       (simp only [bsX] at c16)
       have hi:i < b.ps.length:=by omega
       have hdl:=Y1 ha hb i (by omega);have hdl1:=Y1 ha hb (i+1) hi;have hM:=Qdc (a:=a) hi;have hl1:(dB a b i).length+(d4 a (pA b i)).length=(dB a b (i+1)).length:=by rw [hM];simp
       repeat refine o4 ?_
       refine clX (Qa2 (c:=a) (k:=(pA b i).k) ha) ?_
       repeat refine o1 ?_
       refine ⟨[0,1,3,7,15,7,63,127,7,511,1023],by kernel_rfl,?_⟩
       repeat refine o58 ?_
       refine gx (fun hc=>(Qdb (p:=fP a.ps (pA b i).k) (q:=pA b i))) (fun hk=>⟨hk,?_⟩)
       repeat refine o59 ?_
       refine ⟨fun h17=>?_,fun h17=>?_⟩
       ·skip
        have c17:=h17
        (simp only [bsX] at c17)
        have h4:d4 a (pA b i)=WQ (pA b i):=if_pos c17;rw [h4] at hM hl1;refine clX (Qbu (p:=pA b i) (hb.ps _ (QY hi)).1) ?_
        repeat refine o23 ?_
        refine Ql (i+1) ?_
        repeat refine o27 ?_
        trivial
       ·skip
        have c17:=h17
        (simp only [bsX] at c17)
        have hfe:=(c17).1;have hfi:=QgT hfe;have h4:d4 a (pA b i)=chP (fP a.ps (pA b i).k) (pA b i):=if_neg (by rintro (h | h);exact h (c17).1;exact absurd (h.symm.trans (c17).2) (by decide));rw [h4] at hM hl1;refine ⟨[0,0,2,0,14,30,0,126,255,511],by kernel_rfl,?_⟩
        repeat refine o3 ?_
        refine clX (J1 (p:=fP a.ps (pA b i).k) (q:=pA b i) (ha.ps _ hfi.2.2.2.1).1 (hb.ps _ (QY hi)).1) ?_
        repeat refine o23 ?_
        refine Ql (i+1) ?_
        repeat refine o27 ?_
        trivial
      ·skip
       have c16:=h16
       (simp only [bsX] at c16)
       obtain rfl:i=b.ps.length:=by omega
       have hdl:=Y1 ha hb b.ps.length (Qy8 _)
       repeat refine o31 ?_
       trivial
end
section
open Go.Lib
theorem Qh9 {ps:List PeerS} (hi:Yl ps) {k:List UInt8} {p:PeerS} (h:QM ps k=some p):fE ps k=0∧fP ps k=p:=by
 obtain ⟨i,hl,e,e2⟩:=Qpi hi h;unfold fE fP fI;rw [e,if_neg (by omega),if_neg (by omega),Int.toNat_natCast];exact ⟨rfl,e2⟩
theorem f_no {ps:List PeerS} {k:List UInt8} (h:QM ps k=none):fE ps k≠0:=by
 unfold fE;rw [Yn.1 h,if_pos (by decide)];decide
theorem QxA:∀ {l m:List (List UInt8)},l.Nodup→(∀ x∈l,x∈m)→l.length≤m.length
 | [],m,_,_=>Qzc _
 | x::l,m,h,s=>by
  obtain ⟨h1,h2⟩:=List.nodup_cons.1 h;have hx:=s x (List.mem_cons_self ..);have:=QxA (l:=l) (m:=m.erase x) h2 fun y hy=>(List.mem_erase_of_ne (fun e:y=x=>h1 (by rw [← e];exact hy))).2 (s y (List.mem_cons_of_mem _ hy));rw [List.length_erase_of_mem hx] at this;have:=List.length_pos_of_mem hx;rw [Qzd];omega
theorem QyZ {ps:List PeerS} (h:Yl ps):(ps.map (·.k)).Nodup:=by
 unfold List.Nodup;rw [List.pairwise_map]
 exact h.imp fun {p q} k e=>by
  rw [e] at k;exact ((Qgo _ _).2 k).2 rfl
theorem Qmd (b:ConfS) (A B:List PeerS):Qad b (A++B)=Qad b A++Qad b B:=by unfold Qad;rw [List.filter_append,List.map_append]
theorem Qme {b:ConfS} {ps:List PeerS} {x:List UInt8} (h:x∈Qad b ps):∃ p∈ps,Qet b p=true∧p.k=x:=by
 obtain ⟨p,hp,e⟩:=Qy6.1 h;obtain ⟨h1,h2⟩:=Qzg.1 hp;exact ⟨p,h1,h2,e⟩
theorem Qmf {a b:ConfS} (ha:ConfOk a):∀ i,i≤a.ps.length→∃ d y,goS a [] (dA a b i)=some (d,y)∧Sem d a.k a.port (YD a b i)
 | 0,_=>⟨a,[],rfl,(Sem.self ha).congr fun x=>by unfold YD;rw [if_neg];simp [Qad]⟩
 | i+1,hi=>by
  obtain ⟨d,y,e,s⟩:=Qmf (b:=b) ha i (Nat.le_of_succ_le hi);have hinc:=WZ.1 ha.inc;have hm:=Wy (ps:=a.ps) (i:=i) hi;obtain ⟨hp,hk⟩:=ha.ps _ hm;have hg:=Xt hinc hm
  have hno:(pA a i).k ∉ Qad b (a.ps.take i):=fun h=>by
   obtain ⟨p,h1,_,h3⟩:=Qme h;exact Qbr hinc hi p h1 h3
  rw [QjH hi];by_cases r:fE b.ps (pA a i).k≠0∨QaO (pA a i) (fP b.ps (pA a i).k)=true
  ·have e1:d1 b (pA a i)=[⟨4,(pA a i).k,0,[]⟩,⟨5,[],0,[]⟩]:=if_pos r
   have eR:Qad b (a.ps.take (i+1))=Qad b (a.ps.take i)++[(pA a i).k]:=by
    rw [Xk hi,Qmd];congr 1;unfold Qad;rw [List.filter_cons_of_pos (by unfold Qet;exact decide_eq_true r)];rfl
   have hG:YD a b i (pA a i).k=some (pA a i):=by unfold YD;rw [if_neg hno];exact hg
   have g1:=QeT (a:=y) s hk hG;obtain ⟨d2,e2,s2⟩:=go_5 s (Qjq hp) hG;refine ⟨d2,[],?_,s2.congr fun x=>?_⟩
   ·rw [Xj e,e1,Qbp g1];exact Qb2 e2
   ·unfold YD;rw [eR];by_cases ex:x=(pA a i).k
    ·rw [if_pos ex,if_pos (by rw [ex];simp)]
    ·rw [if_neg ex];by_cases q:x∈Qad b (a.ps.take i)
     ·rw [if_pos q,if_pos (List.mem_append_left _ q)]
     ·rw [if_neg q,if_neg (by rw [Qy7,Qy5,not_or];exact ⟨q,ex⟩)]
  ·have e1:d1 b (pA a i)=[]:=if_neg r
   have eR:Qad b (a.ps.take (i+1))=Qad b (a.ps.take i):=by
    rw [Xk hi,Qmd]
    have:Qad b [pA a i]=[]:=by
     unfold Qad;rw [List.filter_cons_of_neg (by unfold Qet;simpa using r)];rfl
    show _++Qad b [pA a i]=_;rw [this,Qy3]
   refine ⟨d,y,?_,s.congr fun x=>?_⟩
   ·rw [e1,Qy3];exact e
   ·unfold YD;rw [eR]
theorem QgF.self (o:Option PeerS):QgF [] o o:=by
 cases o with
 | none=>trivial
 | some p=>exact ⟨rfl,rfl,rfl,rfl,fun _ h=>h,fun _ h _=>h⟩
theorem QgF.none_ {N:List (List Bool)} {o:Option PeerS} (h:QgF N none o):o=none:=by
 cases o with
 | none=>rfl
 | some q=>exact absurd h id
theorem QgF.some_ {N:List (List Bool)} {p:PeerS} {o:Option PeerS} (h:QgF N (some p) o):∃ q,o=some q∧RelP N p q:=by
 cases o with
 | none=>exact absurd h id
 | some q=>exact ⟨q,rfl,h⟩
theorem QgF.back {N:List (List Bool)} {q:PeerS} {o:Option PeerS} (h:QgF N o (some q)):∃ p,o=some p∧RelP N p q:=by
 cases o with
 | none=>exact absurd h id
 | some p=>exact ⟨p,rfl,h⟩
theorem Qxb {a b:ConfS} (ha:ConfOk a) {x:List UInt8} {p:PeerS} (h:YD a b a.ps.length x=some p):QM a.ps x=some p∧Qet b p=false:=by
 unfold YD at h;rw [Qy9] at h;by_cases q:x∈Qad b a.ps
 ·rw [if_pos q] at h;cases h
 ·rw [if_neg q] at h;refine ⟨h,?_⟩
  cases r:Qet b p with
  | false=>rfl
  | true =>
   obtain ⟨m,e⟩:=Zr h;exact absurd (Qy6.2 ⟨p,Qzg.2 ⟨m,r⟩,e⟩) q
theorem QuG {a b:ConfS} (ha:ConfOk a) (hb:ConfOk b) {x:List UInt8} {p:PeerS} (h:YD a b a.ps.length x=some p):∃ q,QM b.ps x=some q∧QaO p q=false:=by
 obtain ⟨h1,h2⟩:=Qxb ha h;obtain ⟨m,e⟩:=Zr h1;unfold Qet at h2;have h3:=of_decide_eq_false h2;rw [not_or,Decidable.not_not,e] at h3
 cases g:QM b.ps x with
 | none=>exact absurd h3.1 (f_no g)
 | some q =>
  refine ⟨q,rfl,?_⟩;have h4:=h3.2;rw [(Qh9 (WZ.1 hb.inc) g).2] at h4
  cases w:QaO p q with
  | false=>rfl
  | true=>exact absurd w h4
theorem QuH {a b:ConfS} (ha:ConfOk a) {x:List UInt8} {p:PeerS} (h1:QM a.ps x=some p) (h2:Qet b p=true):YD a b a.ps.length x=none:=by
 unfold YD;rw [Qy9,if_pos];obtain ⟨m,e⟩:=Zr h1;exact Qy6.2 ⟨p,Qzg.2 ⟨m,h2⟩,e⟩
theorem Qxc {a b:ConfS} {x:List UInt8} (h1:QM a.ps x=none):YD a b a.ps.length x=none:=by
 unfold YD;rw [h1];split <;> rfl
theorem QuI {a b:ConfS} (ha:ConfOk a) {x:List UInt8} {p:PeerS} (h1:QM a.ps x=some p) (h2:Qet b p=false):YD a b a.ps.length x=some p:=by
 unfold YD;rw [Qy9,if_neg]
 ·exact h1
 ·intro h;obtain ⟨q,hq,hr,hk⟩:=Qme h;have:=Xt (WZ.1 ha.inc) hq;rw [hk,h1] at this;rw [Qzh.inj this,hr] at h2;cases h2
theorem QuJ {ps:List PeerS} (h:(ps.flatMap (·.ns)).Nodup) (hi:Yl ps) {j:Nat} (hj:j < ps.length):∀ n∈(ps.getD j Qa).ns,n ∉ Qua (ps.take j):=fun n hn hm=>by
 obtain ⟨r,hr,hrn⟩:=List.mem_flatMap.1 hm;exact QgE h (Wy hj) (Qzi hr) (fun e=>Qbr hi hj r hr (by rw [e])) n hn hrn
theorem QuK {ps:List PeerS} (hi:Yl ps) {j:Nat} (hj:j < ps.length):(ps.getD j Qa).k ∉ (ps.take j).map (·.k):=fun h=>by
 obtain ⟨r,hr,e⟩:=Qy6.1 h;exact Qbr hi hj r hr e
theorem DInv.room {a b d:ConfS} {j:Nat} (ha:ConfOk a) (hb:ConfOk b) (hj:j < b.ps.length) (h:DInv a b j d) (hg:QM d.ps (pA b j).k=none):d.ps.length < 6:=by
 have hpl:=hb.pl;have hn:=QyZ (WZ.1 h.ok.inc)
 have hin:∀ x∈(pA b j).k::d.ps.map (·.k),x∈b.ps.map (·.k):=fun x hx=>by
  rcases Qzj.1 hx with e | e
  ·rw [e];exact List.mem_map_of_mem (Wy hj)
  ·by_cases q:x∈(b.ps.take j).map (·.k)
   ·obtain ⟨r,hr,er⟩:=Qy6.1 q;exact Qy6.2 ⟨r,Qzi hr,er⟩
   ·have ht:=h.todo x q;obtain ⟨p,hp,ep⟩:=Qy6.1 e;have g:=Xt (WZ.1 h.ok.inc) hp;rw [ep] at g;rw [g] at ht;obtain ⟨p2,e2,_⟩:=ht.back;obtain ⟨q2,e3,_⟩:=QuG ha hb e2;obtain ⟨m,mk⟩:=Zr e3;exact Qy6.2 ⟨q2,m,mk⟩
 have hno:(pA b j).k ∉ d.ps.map (·.k):=fun hm=>by
  obtain ⟨p,hp,ep⟩:=Qy6.1 hm;exact X2.1 hg p hp ep
 have:=QxA (List.nodup_cons.2 ⟨hno,hn⟩) hin;rw [Qzd,List.length_map,List.length_map] at this;omega
theorem Qrn {a b d:ConfS} {j:Nat} {y:List UInt8} (ha:ConfOk a) (hb:ConfOk b) (hj:j < b.ps.length) (h:DInv a b j d):∃ e z,goS d y (d4 a (pA b j))=some (e,z)∧DInv a b (j+1) e:=by
 have hi:=WZ.1 hb.inc;have hai:=WZ.1 ha.inc;have hm:=Wy (ps:=b.ps) (i:=j) hj;obtain ⟨hq,hqk⟩:=hb.ps _ hm;have hnt:=QuK hi hj;have ht:=h.todo _ hnt;have gb:=Xt hi hm;have s0:Sem d b.k b.port (QM d.ps):=⟨h.ok,h.k,h.port,fun _=>rfl⟩;have hkn:=Qjq hq;by_cases r:fE a.ps (pA b j).k≠0∨QaO (fP a.ps (pA b j).k) (pA b j)=true
 ·have e4:d4 a (pA b j)=WQ (pA b j):=if_pos r
  have hkeep:YD a b a.ps.length (pA b j).k=none:=by
   cases g:QM a.ps (pA b j).k with
   | none=>exact Qxc g
   | some p =>
    obtain ⟨f1,f2⟩:=Qh9 hai g;rw [f2] at r;have r2:=r.resolve_left (not_not_intro f1);obtain ⟨m,mk⟩:=Zr g;refine QuH ha g ?_;unfold Qet;refine decide_eq_true (.inr ?_);rw [mk,(Qh9 hi gb).2];exact r2
  rw [hkeep] at ht;have hno:=ht.none_;obtain ⟨e,e1,s1⟩:=Ql0 (a:=y) s0 hq hqk hno (h.room ha hb hj hno);exact ⟨e,(pA b j).k,by rw [e4];exact e1,h.step (k:=[]) hb hj s1.ok s1.k s1.port (.inl s1.at_)⟩
 ·have e4:d4 a (pA b j)=chP (fP a.ps (pA b j).k) (pA b j):=if_neg r;rw [not_or,Decidable.not_not] at r
  cases g:QM a.ps (pA b j).k with
  | none=>exact absurd r.1 (f_no g)
  | some p =>
   obtain ⟨f1,f2⟩:=Qh9 hai g;rw [f2] at r e4;obtain ⟨m,mk⟩:=Zr g
   have hr:Qet b p=false:=by
    unfold Qet;refine decide_eq_false ?_;rw [mk,(Qh9 hi gb).2,(Qh9 hi gb).1,not_or];exact ⟨by decide,r.2⟩
   rw [QuI ha g hr] at ht;obtain ⟨p',e',rp⟩:=ht.some_;have hp:=(ha.ps p m).1;have hp':=(h.ok.ps p' (Zr e').1).1;have hdis:=QuJ hb.nd hi hj;rw [e4]
   have hf6:(k6 p (pA b j)=[]∧p'.s=(pA b j).s)∨k6 p (pA b j)=[⟨6,(pA b j).s,0,[]⟩]:=by
    by_cases q:p.s=(pA b j).s
    ·exact .inl ⟨QuF q,rp.s.trans q⟩
    ·exact .inr (QuE q)
   have hf7:(k7 p (pA b j)=[]∧p'.e=(pA b j).e)∨k7 p (pA b j)=[⟨7,(pA b j).e,0,[]⟩]:=by
    by_cases q:p.e=(pA b j).e
    ·exact .inl ⟨Qpv q,rp.e.trans q⟩
    ·exact .inr (Qpu q)
   have hf8:(k8 p (pA b j)=[]∧p'.a=(pA b j).a)∨k8 p (pA b j)=[⟨8,[],(pA b j).a,[]⟩]:=by
    by_cases q:p.a=(pA b j).a
    ·exact .inl ⟨Qh8 q,rp.a.trans q⟩
    ·exact .inr (Qh7 q)
   have hk':p'.k=(pA b j).k:=rp.k.trans mk;have g1:=QeT (a:=y) s0 hqk e';by_cases hns:p.ns=(pA b j).ns
   ·have hO:chO p (pA b j)=chH p (pA b j):=if_pos hns
    have hns':p'.ns=(pA b j).ns:=by
     refine Qc9 hp'.ns hq.ns fun n=>⟨fun q=>?_,fun q=>?_⟩
     ·rw [← hns];exact rp.sub n q
     ·exact rp.sup n (by rw [hns];exact q) (hdis n q)
    obtain ⟨e2,g2,s2⟩:=Qt8 (a:=(pA b j).k) (p:=p') s0 hkn e' hq hf6 hf7 hf8
    have hfin:∀ x,QM e2.ps x=if x=(pA b j).k then some (pA b j) else QM d.ps x:=fun x=>by
     rw [s2.at_ x];unfold Vh;rw [hns',hk']
    have hinv:=h.step (k:=[]) hb hj s2.ok s2.k s2.port (.inr hfin);by_cases hz:chH p (pA b j)=[]
    ·refine ⟨d,y,?_,?_⟩
     ·rw [Qpw (hO.trans hz)];rfl
     ·have:d=e2:=by
       have g3:goS d (pA b j).k (chH p (pA b j))=some (e2,(pA b j).k):=g2;rw [hz] at g3;exact congrArg Prod.fst (Qzh.inj g3)
      rw [this];exact hinv
    ·refine ⟨e2,(pA b j).k,?_,hinv⟩;rw [QjG hO hz,Qbp g1];exact g2
   ·have hO:chO p (pA b j)=chL p (pA b j) (pA b j).ns.length:=if_neg hns
    have hz:chL p (pA b j) (pA b j).ns.length≠[]:=fun q=>by
     have:=(Zd (p:=p) (q:=pA b j) (pA b j).ns.length).1;rw [q] at this;exact absurd this (by decide)
    obtain ⟨e2,g2,s2⟩:=Qt8 (a:=(pA b j).k) (p:=p') s0 hkn e' hq hf6 hf7 hf8;obtain ⟨e3,g3,s3⟩:=go_9 s2 hkn Qbq;obtain ⟨e5,g5,s5⟩:=Qjp hkn (pA b j).ns (p:=⟨p'.k,(pA b j).s,(pA b j).e,(pA b j).a,[]⟩) s3 Qbq (by rw [List.nil_append];exact hq.ns) (by simpa using hq.nl) hq.nb;refine ⟨e5,(pA b j).k,?_,h.step (k:=[]) hb hj s5.ok s5.k s5.port (.inl fun x=>?_)⟩
    ·rw [QjG hO hz,Qbp g1];show goS d (pA b j).k ((chH p (pA b j)++[⟨9,[],0,[]⟩])++((pA b j).ns.take (pA b j).ns.length).map n10)=_;have g2':goS d (pA b j).k (chH p (pA b j))=some (e2,(pA b j).k):=g2;rw [QaP,Qzf,Xj g2',List.singleton_append,Qbp g3];exact g5
    ·rw [s5.at_ x];by_cases ex:x=(pA b j).k
     ·rw [if_pos ex,if_pos ex,hk'];rfl
     ·rw [if_neg ex,if_neg ex,QeR ex,QeR ex]
theorem Qmg {a b d:ConfS} {y:List UInt8} (ha:ConfOk a) (hb:ConfOk b) (h:DInv a b 0 d):∀ j,j≤b.ps.length→∃ e z,goS d y ((b.ps.take j).flatMap (d4 a))=some (e,z)∧DInv a b j e
 | 0,_=>⟨d,y,rfl,h⟩
 | j+1,hj=>by
  obtain ⟨e,z,g,i⟩:=Qmg (y:=y) ha hb h j (Nat.le_of_succ_le hj);obtain ⟨e2,z2,g2,i2⟩:=Qrn (y:=z) ha hb hj i;refine ⟨e2,z2,?_,i2⟩;rw [Xk hj,Qze,Xj g];simpa using g2
theorem Qro {a b:ConfS} (ha:ConfOk a) (hb:ConfOk b) (hk:a.k=b.k):ZX a (QbI a b)=(b,0,0):=by
 obtain ⟨d,y,e,s⟩:=Qmf (b:=b) ha a.ps.length (Qy8 _);have e2:d2 a b=[]:=if_pos hk
 have h3:∃ d' y',goS d y (d3 a b)=some (d',y')∧Sem d' a.k b.port (YD a b a.ps.length):=by
  by_cases q:a.port=b.port
  ·exact ⟨d,y,by rw [show d3 a b=[] from if_pos q];rfl,by rw [← q];exact s⟩
  ·obtain ⟨d',g,s'⟩:=go_2 (a:=y) s hb.port;exact ⟨d',[],by rw [show d3 a b=[⟨2,[],b.port,[]⟩] from if_neg q];exact Qb2 g,s'⟩
 obtain ⟨d',y',g',s'⟩:=h3;have h0:DInv a b 0 d':=⟨s'.ok,s'.k.trans hk,s'.port,fun x hx=>absurd hx (by simp),fun x _=>by rw [s'.at_];exact QgF.self _⟩;obtain ⟨f,z,g,i⟩:=Qmg (y:=y') ha hb h0 b.ps.length (Qy8 _)
 have hgo:goS a [] (QbI a b)=some (f,z):=by
  show goS a [] ((dA a b a.ps.length++d2 a b++d3 a b)++(b.ps.take b.ps.length).flatMap (d4 a))=_;rw [e2,Qy3,Qzf,Xj e,Xj g'];exact g
 have:f=b:=by
  refine Sem.eq (k:=b.k) (port:=b.port) (G:=QM b.ps) ⟨i.ok,i.k,i.port,fun x=>?_⟩ (Sem.self hb);have hd:=i.done x;have ht:=i.todo x;rw [Qy9] at hd ht;by_cases q:x∈b.ps.map (·.k)
  ·exact hd q
  ·have gb:QM b.ps x=none:=X2.2 fun p hp ep=>q (Qy6.2 ⟨p,hp,ep⟩);rw [gb]
   have hkeep:YD a b a.ps.length x=none:=by
    cases w:YD a b a.ps.length x with
    | none=>rfl
    | some p =>
     obtain ⟨r,er,_⟩:=QuG ha hb w;rw [gb] at er;cases er
   have:=ht q;rw [hkeep] at this;exact this.none_
 rw [this] at hgo;exact Qjn 0 hgo
end
section
open Go.Lib
theorem chk5:QP ⟨5,[],0,[]⟩=0:=by simp [QP,isT,isN]
theorem chk9:QP ⟨9,[],0,[]⟩=0:=by simp [QP,isT,isN]
theorem Qxd {p q:PeerS} (h:PeerOk q) (hg:QaO p q=false):∀ s∈chP p q,Qx s:=fun s hs=>by
 have hH:∀ s∈chH p q,Qx s:=fun s hs=>by
  have hs2:s∈k6 p q++k7 p q++k8 p q:=hs;rcases Qy7.1 hs2 with k | k
  ·rcases Qy7.1 k with k | k
   ·by_cases e:p.s=q.s
    ·rw [QuF e] at k;cases k
    ·rw [QuE e,Qy5] at k;subst k;exact sok (chk6 h.s) rfl
   ·by_cases e:p.e=q.e
    ·rw [Qpv e] at k;cases k
    ·rw [Qpu e,Qy5] at k;subst k;refine sok ((chk7 _).trans (h.e.resolve_left fun e0=>?_)) rfl;unfold QaO at hg;rw [decide_eq_true e0,decide_eq_false (by rw [← e0];exact e)] at hg;cases hg
  ·by_cases e:p.a=q.a
   ·rw [Qh8 e] at k;cases k
   ·rw [Qh7 e,Qy5] at k;subst k;exact sok (chk8 h.a) rfl
 have hO:∀ s∈chO p q,Qx s:=fun s hs=>by
  unfold chO at hs;split at hs
  ·exact hH s hs
  ·have hs2:s∈(chH p q++[⟨9,[],0,[]⟩])++(q.ns.take q.ns.length).map n10:=hs;rw [QaP] at hs2;rcases Qy7.1 hs2 with k | k
   ·rcases Qy7.1 k with k | k
    ·exact hH s k
    ·rw [Qy5] at k;subst k;exact sok chk9 rfl
   ·exact Ql1 h.nb s k
 unfold chP at hs;split at hs
 ·cases hs
 ·rcases Qzj.1 hs with rfl | k
  ·exact sok ((Qrb _).trans h.k) rfl
  ·exact hO s k
theorem Qia {a b:ConfS} (ha:ConfOk a) (hb:ConfOk b) (hk:a.k=b.k):∀ s∈QbI a b,Qx s:=fun s hs=>by
 have hs2:s∈((a.ps.take a.ps.length).flatMap (d1 b)++d2 a b++d3 a b)++(b.ps.take b.ps.length).flatMap (d4 a):=hs;rw [Qy9,Qy9] at hs2;rcases Qy7.1 hs2 with k | k
 ·rcases Qy7.1 k with k | k
  ·rcases Qy7.1 k with k | k
   ·refine QgG (fun p hp s hs=>?_) s k;unfold d1 at hs;split at hs
    ·rcases Qzj.1 hs with rfl | hs
     ·exact sok ((Qrb _).trans (ha.ps p hp).1.k) rfl
     ·rw [Qy5] at hs;subst hs;exact sok chk5 rfl
    ·cases hs
   ·unfold d2 at k;rw [if_pos hk] at k;cases k
  ·unfold d3 at k;split at k
   ·cases k
   ·rw [Qy5] at k;subst k;exact sok (chk2 hb.port) rfl
 ·refine QgG (fun q hq s hs=>?_) s k;unfold d4 at hs;split at hs
  ·exact QhY (hb.ps q hq).1 s hs
  ·rename_i r
   rw [not_or] at r;refine Qxd (hb.ps q hq).1 ?_ s hs
   cases w:QaO (fP a.ps q.k) q with
   | false=>rfl
   | true=>exact absurd w r.2
end
section
open Go.RowKit
theorem QuL {c:ConfS} {L:List SetS} (h:ConfOk c) (hn:60 < L.length) (hm:L.length≤100000):Cf Tryz.prog 22 [] [Qp c,Wz L] [] (.tup [Qp Q4,.i 0,.i 1]):=by
 refine Qs {} Tryz.func22 Tryz.ntmps22 ?_;refine clX (Qh h) ?_
 repeat refine o1 ?_
 refine knF ?_;refine ⟨fun h2=>?_,fun h2=>?_⟩
 ·skip
  have c2:=h2
  (simp only [bsX] at c2)
  repeat refine o0 ?_
  trivial
 ·skip
  have c2:=h2
  (simp only [bsX] at c2)
  exact absurd (by omega) c2
end
section
open Go.RowKit Go.Lib
theorem Qxe {a b:ConfS} (ha:ConfOk a) (hb:ConfOk b):(QbI a b).length≤100:=by
 have:=Y1 ha hb b.ps.length (Qy8 _);have:=hb.pl;show (dB a b b.ps.length).length≤100;omega
theorem Qy0 {a b:ConfS} (ha:ConfOk a) (hb:ConfOk b) (hk:a.k=b.k):Cf Tryz.prog 41 [] [Qp a,Qp b] [] (.tup [Wz (QbI a b),.i 0]):=by
 have h:=QyY ha hb (by
  by_cases q:a.k=[]
  ·exact .inl q
  ·exact .inr (by rw [← hk];exact q))
 exact Cf.resAv (by
  have e:=QaY (L:=QbI a b) fun s hs hk2=>(YI (Qia ha hb hk s hs).1).2.2.2.2.1 hk2;show AV.tup [_,_]=AV.tup [_,_]
  rw [e]) h
theorem Qdd {l m:List RawS} {A B:ConfS} {L:List SetS} {R:ConfS×Int×Int} (hl:∀ x∈l,x.inn) (hn:(l.length:Int)≤9223372036854775807) (hm:∀ x∈m,x.inn) (hmn:(m.length:Int)≤9223372036854775807) (eA:Yj l=A) (eB:Yj m=B) (eL:QbI A B=L) (hR:(60 < L.length∧R=(Q4,0,1))∨(L.length≤60∧R=(B,0,0))):Cf Tryz.prog 14 [] [QR l,QR m] [] (.b true):=by
 have hA:ConfOk A:=eA ▸ Yk l;have hB:ConfOk B:=eB ▸ Yk m;have hk:A.k=B.k:=by rw [← eA,← eB];rfl
 have hKA:=Yo hl hn;rw [eA] at hKA;have hKB:=Yo hm hmn;rw [eB] at hKB;have hO:=Qy0 hA hB hk;have hLn:L.length≤100:=eL ▸ Qxe hA hB
 have hrun:Cf Tryz.prog 22 [] [Qp A,Wz L] [] (.tup [Qp R.1,.i R.2.1,.i R.2.2]):=by
  rcases hR with ⟨h1,h2⟩ | ⟨h1,h2⟩
  ·rw [h2];exact QuL hA h1 (by omega)
  ·have:=XU (L:=L) hA (eL ▸ Qia hA hB hk) h1;rw [show ZX A L=(B,0,0) from eL ▸ Qro hA hB hk] at this;rw [h2];exact this
 rw [eL] at hO;have hRok:ConfOk R.1:=by rcases hR with ⟨_,h⟩ | ⟨_,h⟩ <;> rw [h];exact ZG;exact hB
 have hsm:WR B B=true:=W6.2 rfl;refine Qs {} Tryz.func14 Tryz.ntmps14 ?_;refine clX hKA ?_
 repeat refine o1 ?_
 refine clX hKB ?_
 repeat refine o1 ?_
 refine clX hO ?_
 repeat refine o1 ?_
 refine clX hrun ?_
 repeat refine o1 ?_
 refine clX VX ?_
 repeat refine o20 ?_
 refine ⟨fun h1=>?_,fun h1=>?_⟩
 ·skip
  (simp only [Int.reduceToNat,UInt8.reduceOfNat] at h1)
  have c1:=h1
  (simp only [bsX] at c1)
  exact absurd c1 (by simp)
 ·skip
  (simp only [Int.reduceToNat,UInt8.reduceOfNat] at h1)
  have c1:=h1
  (simp only [bsX] at c1)
  refine ⟨fun h2=>?_,fun h2=>?_⟩
  ·skip
   have c2:=h2
   (simp only [bsX] at c2)
   obtain ⟨_,hR2⟩:=hR.resolve_right (fun q=>by have:=c2;omega);subst hR2
   repeat refine o0 ?_
   trivial
  ·skip
   have c2:=h2
   (simp only [bsX] at c2)
   obtain ⟨_,hR2⟩:=hR.resolve_left (fun q=>by have:=c2;omega);subst hR2;refine gx (fun hc=>(WM hB hB)) (fun hk=>⟨hk,?_⟩)
   repeat (refine Ob.mk ?_ ?_;focus (first | (intro _;exact Eq.refl _) | assumption | (intro hg;((intro hq;((simp_all;done)))))))
   trivial
theorem Qmh {l m:List RawS} (hl:∀ x∈l,x.inn) (hn:(l.length:Int)≤9223372036854775807) (hm:∀ x∈m,x.inn) (hmn:(m.length:Int)≤9223372036854775807):Cf Tryz.prog 14 [] [QR l,QR m] [] (.b true):=by
 by_cases q:(QbI (Yj l) (Yj m)).length≤60
 ·exact Qdd (R:=(Yj m,0,0)) hl hn hm hmn rfl rfl rfl (.inr ⟨q,rfl⟩)
 ·exact Qdd (R:=(Q4,0,1)) hl hn hm hmn rfl rfl rfl (.inl ⟨by omega,rfl⟩)
end
namespace diffBack
open Go.ChangeShapes Go.WideShapes Go.ChangeAt Go.RowKit
open Go.ChangeMaps (open_string shut_string)
def QN:List (String×DataW Unit):=[("math/bits.deBruijn32tab",Rows.laid_math_bits_deBruijn32tab),("math/bits.deBruijn64tab",Rows.laid_math_bits_deBruijn64tab),("internal/strconv.uint64pow10",Rows.laid_internal_strconv_uint64pow10),("unicode/utf8.acceptRanges",Rows.laid_unicode_utf8_acceptRanges),("unicode/utf8.first",Rows.laid_unicode_utf8_first)]
theorem Zw {W:World} (h:laidMetH Tryz.prog QN W):Amb W (Vp W):=by
 rw [MakeChecks.laidMetH_plain _ _ _ (by kernel_rfl)] at h;unfold QN at h;exact YT (laidMet.tail (laidMet.tail h))
theorem Z5 (os:Os) (started:os.Started) (H:Type) (enc:TypeId×Value→H) :
  ReturnsInHanded {} Tryz.checked os 14 .any (fun w args=>(Rows.diffBackSpec.pre enc Tryz.prog Tryz.f14 Rows.diffBackRow.domain false w args∧laidMetH Tryz.prog QN w)∧sizedMet enc Tryz.prog Tryz.f14 (OpenSpec.ofChange Rows.diffBackSpec) false w args) (Rows.diffBackSpec.post enc Tryz.prog Tryz.f14 false true false false):=by
 refine returnsInHanded_of_change_and (C:=Tryz.checked) (X:=fun w _=>laidMetH Tryz.prog QN w) (fun _ _ _ hh h=>h.of_heap hh) own started (by kernel_rfl) Tryz.func14
  (ChangeSpec.witness_shaped (enc:=enc) (C:=Tryz.checked) (os:=os) (X:=fun w _=>laidMetH Tryz.prog QN w) false (World.laidAll Tryz.prog os QN) #[.slice none 0 0,.slice none 0 0] 8 (World.laidAll_os _ _ _)
   (World.shaped_of_ZipB (by kernel_rfl) (by kernel_rfl)) (by kernel_rfl) (by kernel_rfl) (by kernel_rfl)
   (by rw [MakeChecks.laidMetH_plain _ _ _ (by kernel_rfl)];exact laidMet_laidAll _ (by kernel_rfl) (by kernel_rfl))) ?_
 intro W base args ds gs before hval0 hW hcnd hwt hL _;have hval:∀ (j:Nat) t v,Tryz.f14.params[j]? = some t→args[j]? = some v→Value.okWide Tryz.prog W .any base t v:=hval0;have hW':=hW;obtain ⟨p,q,hA0,hV,rfl,hfz,hnd⟩:=hW;have hA:DataW.TrodAll enc Tryz.prog W 0 (fun _=>true) true Tryz.f14.params.toList args.toList ds p:=hA0;rw [Tryz.params14] at hA hval;obtain ⟨v0,vs0,d0,ds0,p0,q0,hargs,rfl,rfl,h0,r0⟩:=trodAll_cons hA;obtain ⟨v1,vs1,d1,ds1,p1,q1,rfl,rfl,rfl,h1,r1⟩:=trodAll_cons r0;obtain ⟨rfl,rfl,rfl⟩:=trodAll_nil r1;obtain rfl:args = #[v0,v1]:=by cases args;simp_all
 obtain ⟨rfl,rfl⟩:=trodVars_none hV;have k0:=h0;have lt0:∀ x∈p0,x.block < W.heap.size:=by obtain ⟨m,hm⟩:=k0;exact DataW.trod_lt m _ _ _ hm
 have k1:=h1;have lt1:∀ x∈p1,x.block < W.heap.size:=by obtain ⟨m,hm⟩:=k1;exact DataW.trod_lt m _ _ _ hm
 obtain ⟨l0,ok0,z0⟩:=Wb (hval 0 _ v0 rfl rfl) h0;obtain ⟨l1,ok1,z1⟩:=Wb (hval 1 _ v1 rfl rfl) h1;clear hA0 hval0;refine (Z8 (vs:=[_,_]) (Qmh ok0.2 (by have:=ok0.1;unfold maxLen at this;omega) ok1.2 (by have:=ok1.1;unfold maxLen at this;omega)) (Zw hL) (Wd z0 (Wd z1 VR))).mono fun e W9 ⟨he,bel⟩=>?_;subst he;exact ⟨_,rfl,_,_,_,[],_,[],hW',trodAll_mk1 (shut_bool Tryz.underlying4 _),(trodAll_cons_mk (Below.trod WD (by kernel_rfl) (of_decide_eq_true (by kernel_rfl)) k0 bel lt0) (trodAll_cons_mk (Below.trod WD (by kernel_rfl) (of_decide_eq_true (by kernel_rfl)) k1 bel lt1) trodAll_mk0)),rfl,bel.frame _,fun h=>by cases h⟩
theorem QaS:(Rows.diffBackRow.inPlace == Tryz.pinned.checked.prog.inPlace 14)=true:=by kernel_rfl
theorem QaT:(Rows.diffBackRow.unfollowed == Tryz.pinned.checked.prog.unfollowed 14)=true:=by kernel_rfl
theorem QaU:(Rows.diffBackRow.recurses == Tryz.pinned.checked.prog.recurses 14)=true:=by kernel_rfl
theorem QaV:(Rows.diffBackRow.named == Tryz.pinned.checked.prog.varsNamed 14)=true:=by kernel_rfl
theorem QaW:(Rows.diffBackRow.plainKeys == Tryz.pinned.checked.prog.plainKeys)=true:=by kernel_rfl
theorem Z6:joinedFacts Tryz.pinned.checked.prog 14 Tryz.f14 Rows.diffBackSpec Rows.diffBackRow=true:=by
 unfold joinedFacts;exact Qc (Qc (Qc (Qc (Qc (Qc (Qc (Qc (Qc (Qc (Qc (Qc (Qc (Qc (Qc (Qc (Qc (Qc (Qc (Qc (Qc (Qc (Qc (Qc (Qc (Qc (Qc (Qc (Qc (Qc (Qc (by kernel_rfl) Qc6) Qc5) (by kernel_rfl)) (by kernel_rfl)) (by kernel_rfl)) (by kernel_rfl)) (by kernel_rfl)) (by kernel_rfl)) QaS) QaT) QaU) QaV) (by kernel_rfl)) (by kernel_rfl)) (by kernel_rfl)) (by kernel_rfl)) (by kernel_rfl)) (by kernel_rfl)) (by kernel_rfl)) (by kernel_rfl)) (by kernel_rfl)) QaW) (by kernel_rfl)) JX) JW) (YW (by kernel_rfl))) (XV (by kernel_rfl))) (by kernel_rfl)) (by kernel_rfl)) (by kernel_rfl)) (by kernel_rfl)
theorem QaX:Rows.diffBackRow.holds Tryz.pinned (OpenSpec.ofChange Rows.diffBackSpec) :=
 OpenClaim.holds_of_wide 14 Tryz.f14 rfl rfl rfl rfl rfl rfl rfl ⟨rfl,rfl,rfl,rfl,rfl⟩ rfl rfl rfl rfl rfl (by kernel_rfl) Tryz.func14 Z6
  (of_decide_eq_true (by kernel_rfl)) (by unfold Func.isWrapper;first | (rw [if_pos (by decide +kernel)];kernel_rfl) | (rw [if_neg (by decide +kernel)];exact ⟨rfl,rfl⟩))
  (fun os started H enc _=>Z5 os started H enc)
theorem pw1:Rows.diffBackRow.wfByText (OpenSpec.ofChange Rows.diffBackSpec)=true:=by kernel_rfl
theorem pw2:Tryz.pinned.checked.prog.mainIs=some ((true,"304393dc0cffdc476f139ebc5f59f91e4654f2b28d5098997c89b056d7c62b16").1,(true,"304393dc0cffdc476f139ebc5f59f91e4654f2b28d5098997c89b056d7c62b16").2.toList):=by kernel_rfl
theorem pw3:false=Tryz.pinned.checked.prog.looks []:=by kernel_rfl
theorem pw4:([22,22].all fun u=>!Tryz.prog.wantsStandIn u)=true:=by kernel_rfl
theorem pw5:false=Rows.diffBackRow.goesBy Tryz.pinned.checked.prog:=by kernel_rfl
theorem pw6:Tryz.prog.funcNamed "cattlecreep/cattlecreepkeep.DiffBack" = some 14:=by kernel_rfl
theorem proved:Rows.DiffBackCardSaid :=
 Claim7.holds_tied_plain_at .later [] [.data,.data,.data,.data,.pinned] true (true,"304393dc0cffdc476f139ebc5f59f91e4654f2b28d5098997c89b056d7c62b16") false
  QaX (fun _ h=>by cases h) pw1 (fun _ h=>by cases h) diffBack_row_tie rfl ⟨rfl,rfl⟩ pw2 rfl
  (fun f fn hf hfn=>by
   obtain rfl:f=14:=Qzh.inj (pw6.symm.trans hf) |>.symm;obtain rfl:fn=Tryz.f14:=(Qzh.inj (Tryz.func14.symm.trans hfn)).symm
   exact ⟨pw3,fun j t ht=>by
    rw [Tryz.params14] at ht;have hm:t∈[22,22]:=by simpa using Array.mem_of_getElem? ht
    exact (show Tryz.prog.wantsStandIn t=false by simpa using List.all_eq_true.1 pw4 t hm)⟩)
  pw5
#print axioms proved
end diffBack
end Go.Proofs.YtcebndkiagbddaaGreatDoor
