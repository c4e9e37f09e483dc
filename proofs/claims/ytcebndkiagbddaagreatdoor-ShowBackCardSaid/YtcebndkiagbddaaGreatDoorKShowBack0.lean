/- ShowBack: applying the displayed settings to the empty configuration restores the configuration: the statement holds of the program, for every input. No further condition. -/
import Derived.Lib.SplitLaws
import Derived.Lib.IndexBytes
import Derived.Lib.Join
import Derived.Lib.BitFns
import Derived.Lib.ItoaNum
import Derived.Test.YtcebndkiagbddaaGreatDoorTie
import Derived.Test.YtcebndkiagbddaaGreatDoorCards
import Derived.Lay
import Derived.SevenTiedAt
import Derived.MakeChecks
import Derived.Lib.LaidTab
import Derived.Stop.LaidErr
import Derived.Test.YtcebndkiagbddaaGreatDoorK44
set_option linter.unusedVariables false
set_option linter.unusedSimpArgs false
set_option maxRecDepth 100000
set_option maxHeartbeats 4000000
open List renaming getD_eq_getElem?_getD → Qy3, length_append → Qy4, getElem?_eq_getElem → Qy6, length_cons → Qy7, map_cons → Qy8, append_nil → Qy9, length → Qza, length_nil → Qzb, mem_singleton → Qzd, mem_append → Qze, length_map → Qzf, mem_cons_of_mem → Qzh, getElem?_append_right → Qzj, append_assoc → Qzl, drop_eq_getElem_cons → Qzm, getElem?_append_left → Qzn, map_nil → Qzt, mem_map → Qzu, mem_cons_self → Qzv
open Nat renaming zero_le → Qy5, le_refl → Qzc, blt → Qzi, zero_add → Qzp, le_trans → Qzq, le_of_ble_eq_true → Qzr, blt_eq → Qzs
open Bool renaming and_eq_true → Qzg
open Int renaming toNat_natCast → Qzk
open Eq renaming refl → Qzo
namespace Go.Proofs.YtcebndkiagbddaaGreatDoor
section
theorem QyT {L:List LnP} {i:Nat} (h:i < L.length):jnE (L.drop i)=if lnC (L.getD i ([],[])).1 (L.getD i ([],[])).2=0 then jnE (L.drop (i+1)) else lnC (L.getD i ([],[])).1 (L.getD i ([],[])).2:=by
 rw [Qzm h,jnE,Qy3,Qy6 h];rfl
theorem QwY {L:List LnP} (h:∀ x∈L,lnC x.1 x.2=0):(jtx L).length≤102 * L.length:=by
 induction L with
 | nil=>exact Qzc _
 | cons x xs ih =>
  have hx:=(Qcc (h x (by simp))).2.2.2.1;have ih:=ih fun y hy=>h y (Qzh _ hy)
  cases xs with
  | nil=>unfold jtx;rw [Qy8,Qzt,Lib.join_one];simp only [Qy7,Qzb];omega
  | cons y ys =>
   unfold jtx at ih ⊢;rw [Qy8,Qy8,Wo,Qy4,Qy4];rw [Qy8] at ih;simp only [Qy7,Qzb] at ih ⊢;omega
end
section
end
section
end
section
open Go.RowKit
end
section
open Go.RowKit
end
section
open Go.RowKit
end
section
open Go.RowKit
theorem Qup {L:List LnP} (h:∀ x∈L,lnC x.1 x.2=0) (h2:L.length≤60):(L.map YG).length≤1100000∧(Lib.join (L.map YG) [10]).length≤1100000:=by
 have:=QwY h;unfold jtx at this;exact ⟨by rw [Qzf];omega,by omega⟩
theorem Qrf {L:List LnP}:Cf Tryz.prog 127 [] [Qja L] [] (.tup [.s (XL L).1,.i (XL L).2]):=by
 refine Qs {nl:=[(4,9,1)]} Tryz.func127 Tryz.ntmps127 ?_;refine ⟨fun h1=>?_,fun h1=>?_⟩
 ·skip
  have c1:=h1
  (simp only [bsX] at c1)
  have hR:XL L=([],1):=by unfold XL;rw [if_pos (by omega)]
  repeat refine o25 ?_
  trivial
 ·skip
  have c1:=h1
  (simp only [bsX] at c1)
  refine ⟨Nat,fun i=>⟨[(4,.osl 1004 i),(12,Qja L),(13,.i (L.length:Int)),(14,.i (i:Int))],[(1004,.rz i 1 (fun a b=>.s (YG (L.getD a ([],[])))) 9 0)]⟩,fun i=>i≤L.length∧jnE (L.drop i)=jnE L ∧ ∀ x∈L.take i,lnC x.1 x.2=0,fun i=>L.length - i,0,⟨Qy5 _,rfl,fun x h=>by simp at h⟩,?_,fun i hx1=>?_⟩
  ·skip
   repeat (refine Ob.mk ?_ ?_;focus (first | (simp only [Qzk,Qy4,Qy7,Qzb];omega) | (exact Qzo _) | omega | (intro hg;((intro hq;((simp_all;done)))))))
   trivial
  refine ⟨fun h2=>?_,fun h2=>?_⟩
  ·skip
   have c2:=h2
   (simp only [bsX] at c2)
   have hi:i < L.length:=by omega
   have hE:=QyT hi;rw [hx1.2.1] at hE
   repeat (refine Ob.mk ?_ ?_;focus (first | (simp only [Qzk,Qy4,Qy7,Qzb];omega) | omega))
   refine clX (Qgd (k:=(L.getD i ([],[])).1) (v:=(L.getD i ([],[])).2)) ?_
   repeat refine o0 ?_
   refine ⟨fun h3=>?_,fun h3=>?_⟩
   ·skip
    have c3:=h3
    (simp only [bsX] at c3)
    have hz:¬ lnC (L.getD i ([],[])).1 (L.getD i ([],[])).2=0:=by simpa using h3
    rw [if_neg hz] at hE;have hR:XL L=([],lnC (L.getD i ([],[])).1 (L.getD i ([],[])).2):=by unfold XL;rw [if_neg (by omega),hE,if_neg hz]
    repeat refine o25 ?_
    trivial
   ·skip
    have c3:=h3
    (simp only [bsX] at c3)
    have hz:lnC (L.getD i ([],[])).1 (L.getD i ([],[])).2=0:=by simpa using h3
    rw [if_pos hz] at hE;have hlk:=Qif hz
    have hall:∀ x∈L.take (i+1),lnC x.1 x.2=0:=fun x hx=>by
     rw [List.take_add_one,Qze] at hx;rcases hx with hx | hx
     ·exact hx1.2.2 x hx
     ·rw [Qy6 hi] at hx;rw [Qy3,Qy6 hi] at hz;simp at hx;rw [hx];exact hz
    repeat (refine Ob.mk ?_ ?_;focus (first | (simp only [Qzk,Qy4,Qy7,Qzb];omega) | (exact Qzo _) | omega | (simp only [SrcE.len,Qzp,Qy4,Qy7,Qzb];omega)))
    refine ⟨i+1,(by (simp_all;omega)),(by (simp only [SrcE.len,Qzp,Qy4,Qy7,Qzb];omega)),?_⟩
    repeat (refine Ob.mk ?_ ?_;focus (first | (exact Xr (fun _ _ _ _=>rfl) (fun j hj=>by (obtain rfl:j=0:=by omega);(show EV.s ((L.getD i ([],[])).1++[61]++(L.getD i ([],[])).2)=EV.s ((L.getD i ([],[])).1++61::(L.getD i ([],[])).2));rw [Qzl];rfl)) | (exact Qzo _) | (exact Qzr rfl) | (intro hg;((intro hq;((simp_all;done)))))))
    trivial
  ·skip
   have c2:=h2
   (simp only [bsX] at c2)
   have hi:i=L.length:=by have:=hx1.1;omega
   subst hi;have hJ:jnE L=0:=by rw [← hx1.2.1,List.drop_length];rfl
   have hall:∀ x∈L,lnC x.1 x.2=0:=fun x h=>hx1.2.2 x (by rw [List.take_length];exact h);have hjl:=Qup hall (by omega);refine clX (QeI (L:=L.map YG) (sep:=[10]) hjl.1 hjl.2) ?_
   repeat (refine Ob.mk ?_ ?_;focus (first | (rw [Qzf];done) | (exact Qzo _) | (intro hg;((intro hq;((simp_all;done)))))))
   refine ⟨fun h4=>?_,fun h4=>?_⟩
   ·skip
    have c4:=h4
    (simp only [bsX] at c4)
    have hR:XL L=([],1):=by unfold XL;rw [if_neg (by omega),if_pos hJ,if_pos (by unfold jtx;omega)]
    repeat refine o25 ?_
    trivial
   ·skip
    have c4:=h4
    (simp only [bsX] at c4)
    have hR:XL L=(jtx L,0):=by unfold XL;rw [if_neg (by omega),if_pos hJ,if_neg (by unfold jtx;omega)]
    repeat refine o46 ?_
    trivial
end
section
open Go.RowKit Go.Lib
theorem Cf.resAv {P:Program} {f:FuncId} {hin hout:List (Nat×EB)} {ags:List EV} {r r':EV} (h:r.av=r'.av) (k:Cf P f hin ags hout r):Cf P f hin ags hout r':=by
 unfold Cf Ct at k ⊢;rw [← h];exact k
abbrev stQ (L:List SetS):Nat→Nat→EV:=fun i j=>stq (L.getD i Qm) j
theorem Qc7 {s:SetS} (h:s.k≠10→s.p=[]):∀ j,j < 5→(stq s j).pv=(stc s j).pv:=by
 intro j hj
 match j,hj with
 | 0,_=>rfl
 | 1,_=>rfl
 | 2,_=>rfl
 | 4,_=>rfl
 | 3,_ =>
  show (if s.k=10 then EV.u32 (adr s.p) else .v (.int .u32 0)).pv=(EV.u32 (adr s.p)).pv;by_cases k:s.k=10
  ·rw [if_pos k]
  ·rw [if_neg k,h k];rfl
theorem QaY {L:List SetS} (h:∀ s∈L,s.k≠10→s.p=[]):(EV.lz L.length 5 (stQ L)).av=(Wz L).av :=
 QbH fun i hi=>Qc7 (by
  show (L.getD i Qm).k≠10→(L.getD i Qm).p=[];rw [Qy3,Qy6 hi]
  exact h _ (List.getElem_mem hi))
theorem QeU {n:Nat} {L M:List SetS} {s:SetS} {f:Nat→Nat→EV} {X:List EV} (hf:∀ a,a < n → ∀ j,j < 5→f a j=stQ L a j) (hX:X=[stq s 0,stq s 1,stq s 2,stq s 3,stq s 4]) (hn:L.length=n) (hM:M=L++[s]) :
  ∀ a,a < n+1 → ∀ j,j < 5→(bif Qzi a n then f a j else X.getD ((a - n) * 5+j) .any)=stQ M a j:=by
 subst hX hM hn;intro a ha j hj;by_cases hq:a < L.length
 ·have:Qzi a L.length=true:=by simpa [Qzs] using hq
  rw [this];refine (hf a hq j hj).trans ?_;show stq (L.getD a Qm) j=stq ((L++[s]).getD a Qm) j;rw [Qy3,Qy3,Qzn hq]
 ·obtain rfl:a=L.length:=by omega
  have:Qzi L.length L.length=false:=by cases hb:Qzi L.length L.length with | false=>rfl | true=>(rw [Qzs] at hb;omega)
  rw [this,Nat.sub_self,Nat.zero_mul,Qzp];show _=stq ((L++[s]).getD L.length Qm) j;rw [Qy3 (l:=L++[s]),Qzj (Qzc _),Nat.sub_self];have:j=0∨j=1∨j=2∨j=3∨j=4:=by omega
  rcases this with rfl | rfl | rfl | rfl | rfl <;> rfl
theorem Quq {L M N:List SetS} {n:Nat} (g:SetS→Nat→EV) (hN:N=L++M) (hn:L.length=n):∀ a,a < n+M.length → ∀ j,j < 5→(bif Qzi a n then g (L.getD a Qm) j else g (M.getD (a - n) Qm) j)=g (N.getD a Qm) j:=by
 subst hN hn;intro a ha j hj;by_cases hq:a < L.length
 ·have:Qzi a L.length=true:=by simpa [Qzs] using hq
  rw [this];show g (L.getD a Qm) j=g ((L++M).getD a Qm) j;rw [Qy3,Qy3,Qzn hq]
 ·have:Qzi a L.length=false:=by cases hb:Qzi a L.length with | false=>rfl | true=>(rw [Qzs] at hb;omega)
  rw [this];show g (M.getD (a - L.length) Qm) j=g ((L++M).getD a Qm) j;rw [Qy3,Qy3 (l:=L++M),Qzj (by omega)]
end
section
open Go.RowKit Go.Lib
theorem QwZ {L:List SetS} {i:Nat} (h:i < L.length):Qgr (L.drop i)=if (ZB (L.getD i Qm)).2=0 then Qgr (L.drop (i+1)) else (ZB (L.getD i Qm)).2:=by
 rw [Qzm h,Qgr,Qy3,Qy6 h];rfl
theorem Qw0 {A:Type} (f:A→LnP) (d:A) (L:List A):∀ i,i < L.length → ∀ j,j < 2→(fun a b=>lnc (f (L.getD a d)) b) i j=lnF (L.map f) i j:=by
 intro i hi j hj;show lnc (f (L.getD i d)) j=lnc ((L.map f).getD i ([],[])) j;rw [Qy3,Qy3,List.getElem?_map,Qy6 hi];rfl
theorem Qrg {L:List SetS} (hF:∀ x∈L,Vg x) (hn:L.length≤1000):Cf Tryz.prog 81 [] [Wz L] [] (.tup [.s (Xh L).1,.i (Xh L).2]):=by
 refine Qs {nl:=[(4,196,2)]} Tryz.func81 Tryz.ntmps81 ?_;refine ⟨Nat,fun i=>⟨[(4,.osl 1004 i),(9,Wz L),(10,.i (L.length:Int)),(11,.i (i:Int))],[(1004,.rz i 2 (fun a b=>lnc (ls1 (L.getD a Qm)) b) 196 0)]⟩,fun i=>i≤L.length∧Qgr (L.drop i)=Qgr L,fun i=>L.length - i,0,⟨Qy5 _,rfl⟩,?_,fun i hx1=>?_⟩
 ·skip
  repeat refine o11 ?_
  trivial
 refine ⟨fun h1=>?_,fun h1=>?_⟩
 ·skip
  have c1:=h1
  (simp only [bsX] at c1)
  have hi:i < L.length:=by omega
  have hE:=QwZ hi;rw [hx1.2] at hE
  repeat refine o4 ?_
  refine clX (Z3 (s:=L.getD i Qm) (hF _ (VI hi))) ?_
  repeat refine o0 ?_
  refine ⟨fun h2=>?_,fun h2=>?_⟩
  ·skip
   have c2:=h2
   (simp only [bsX] at c2)
   have hz:¬ (ZB (L.getD i Qm)).2=0:=by simpa using h2
   rw [if_neg hz] at hE;have hR:Xh L=([],(ZB (L.getD i Qm)).2):=by unfold Xh;rw [hE,if_neg hz]
   repeat refine o25 ?_
   trivial
  ·skip
   have c2:=h2
   (simp only [bsX] at c2)
   have hz:(ZB (L.getD i Qm)).2=0:=by simpa using h2
   rw [if_pos hz] at hE
   repeat refine o33 ?_
   refine ⟨i+1,(by omega),(by (simp only [SrcE.len,Qzp,Qy4,Qy7,Qzb];omega)),?_⟩
   repeat refine o84 ?_
   trivial
 ·skip
  have c1:=h1
  (simp only [bsX] at c1)
  have hi:i=L.length:=by have:=hx1.1;omega
  subst hi;have hJ:Qgr L=0:=by rw [← hx1.2,List.drop_length];rfl
  have hR:Xh L=XL (L.map ls1):=by unfold Xh;rw [if_pos hJ]
  have hml:(L.map ls1).length=L.length:=Qzf ..;refine clX (Qrf (L:=L.map ls1)) ?_
  repeat (refine Ob.mk ?_ ?_;focus (first | (rw [hR];done) | (exact hml.symm) | (exact Qw0 ls1 _ _) | (exact Qzo _)))
  trivial
end
section
open Go.RowKit Go.Lib
theorem WN {p:PeerS} {k:Nat} (hk:k < p.ns.length):shP p (k+1)=shP p k++[n10 (p.ns.getD k [])]:=by
 unfold shP;rw [Qbl hk,List.map_append,Qzl];rfl
theorem Qjz (p:PeerS):(hdP p).length≤4:=by
 unfold hdP s6 s7 s8;split <;> split <;> split <;> simp
theorem WS {p:PeerS} (k:Nat):(shP p k).length≤4+k:=by
 unfold shP;rw [Qy4,Qzf,List.length_take];have:=Qjz p;omega
theorem QyU (p:PeerS):∀ s∈hdP p,s.k≠10∧s.p=[]:=by
 intro s hs;unfold hdP s6 s7 s8 at hs;rcases List.mem_cons.1 hs with rfl | hs
 ·exact ⟨by show (4:Int)≠10;decide,rfl⟩
 rcases Qze.1 hs with hs | hs
 ·rcases Qze.1 hs with hs | hs
  ·split at hs
   ·cases hs
   ·rw [Qzd] at hs;subst hs;exact ⟨by show (6:Int)≠10;decide,rfl⟩
  ·split at hs
   ·cases hs
   ·rw [Qzd] at hs;subst hs;exact ⟨by show (7:Int)≠10;decide,rfl⟩
 ·split at hs
  ·rw [Qzd] at hs;subst hs;exact ⟨by show (8:Int)≠10;decide,rfl⟩
  ·cases hs
theorem Qur (p:PeerS):∀ s∈WQ p,s.k≠10→s.p=[]:=by
 intro s hs hk;rcases Qze.1 hs with hs | hs
 ·exact (QyU p s hs).2
 ·obtain ⟨n,_,rfl⟩:=Qzu.1 hs;exact absurd rfl hk
theorem Xm {p:PeerS} (hl:p.ns.length≤1000):Cf Tryz.prog 80 [] [ZS p] [] (.lz (WQ p).length 5 (stQ (WQ p))):=by
 refine Qs {} Tryz.func80 Tryz.ntmps80 ?_;refine ⟨fun h1=>?_,fun h1=>?_⟩
 ·skip
  have c1:=h1
  (simp only [bsX] at c1)
  have e6:=QlW c1
  repeat refine o18 ?_
  refine ⟨fun h2=>?_,fun h2=>?_⟩
  ·skip
   have c2:=h2
   (simp only [bsX] at c2)
   have e7:=Qeh c2
   repeat refine o18 ?_
   refine ⟨fun h3=>?_,fun h3=>?_⟩
   ·skip
    have c3:=h3
    (simp only [bsX] at c3)
    have e8:=QaN c3
    repeat refine o18 ?_
    have eh:shP p 0=⟨4,p.k,0,[]⟩::(s6 p++s7 p++s8 p):=Qy9 _;rw [e6,e7,e8] at eh;have ehl:=congrArg Qza eh;refine ⟨Nat,fun k=>⟨[(3,.osl 61 (shP p k).length),(38,Qg p.ns),(39,.i (p.ns.length:Int)),(40,.i (k:Int))],[(61,.rz (shP p k).length 5 (stQ (shP p k)) 48 0)]⟩,fun k=>k≤p.ns.length,fun k=>p.ns.length - k,0,Qy5 _,?_,fun k hx1=>?_⟩
    ·skip
     repeat refine o111 ?_
     trivial
    refine ⟨fun h4=>?_,fun h4=>?_⟩
    ·skip
     have c4:=h4
     (simp only [bsX] at c4)
     have hk:k < p.ns.length:=by omega
     have hM:=WN hk;have hl1:(shP p k).length+1=(shP p (k+1)).length:=by rw [hM];simp
     have hsl:=WS (p:=p) k
     repeat refine o13 ?_
     refine Ql (k+1) ?_
     repeat refine o21 ?_
     trivial
    ·skip
     have c4:=h4
     (simp only [bsX] at c4)
     obtain rfl:k=p.ns.length:=by omega
     repeat refine o1 ?_
     trivial
   ·skip
    have c3:=h3
    (simp only [bsX] at c3)
    have e8:=J9 c3;have eh:shP p 0=⟨4,p.k,0,[]⟩::(s6 p++s7 p++s8 p):=Qy9 _;rw [e6,e7,e8] at eh;have ehl:=congrArg Qza eh;refine ⟨Nat,fun k=>⟨[(3,.osl 61 (shP p k).length),(38,Qg p.ns),(39,.i (p.ns.length:Int)),(40,.i (k:Int))],[(61,.rz (shP p k).length 5 (stQ (shP p k)) 48 0)]⟩,fun k=>k≤p.ns.length,fun k=>p.ns.length - k,0,Qy5 _,?_,fun k hx1=>?_⟩
    ·skip
     repeat refine o53 ?_
     trivial
    refine ⟨fun h5=>?_,fun h5=>?_⟩
    ·skip
     have c5:=h5
     (simp only [bsX] at c5)
     have hk:k < p.ns.length:=by omega
     have hM:=WN hk;have hl1:(shP p k).length+1=(shP p (k+1)).length:=by rw [hM];simp
     have hsl:=WS (p:=p) k
     repeat refine o13 ?_
     refine Ql (k+1) ?_
     repeat refine o21 ?_
     trivial
    ·skip
     have c5:=h5
     (simp only [bsX] at c5)
     obtain rfl:k=p.ns.length:=by omega
     repeat refine o1 ?_
     trivial
  ·skip
   have c2:=h2
   (simp only [bsX] at c2)
   have e7:=QgC (by simpa using h2);refine ⟨fun h6=>?_,fun h6=>?_⟩
   ·skip
    have c6:=h6
    (simp only [bsX] at c6)
    have e8:=QaN c6
    repeat refine o18 ?_
    have eh:shP p 0=⟨4,p.k,0,[]⟩::(s6 p++s7 p++s8 p):=Qy9 _;rw [e6,e7,e8] at eh;have ehl:=congrArg Qza eh;refine ⟨Nat,fun k=>⟨[(3,.osl 61 (shP p k).length),(38,Qg p.ns),(39,.i (p.ns.length:Int)),(40,.i (k:Int))],[(61,.rz (shP p k).length 5 (stQ (shP p k)) 48 0)]⟩,fun k=>k≤p.ns.length,fun k=>p.ns.length - k,0,Qy5 _,?_,fun k hx1=>?_⟩
    ·skip
     repeat refine o53 ?_
     trivial
    refine ⟨fun h7=>?_,fun h7=>?_⟩
    ·skip
     have c7:=h7
     (simp only [bsX] at c7)
     have hk:k < p.ns.length:=by omega
     have hM:=WN hk;have hl1:(shP p k).length+1=(shP p (k+1)).length:=by rw [hM];simp
     have hsl:=WS (p:=p) k
     repeat refine o13 ?_
     refine Ql (k+1) ?_
     repeat refine o21 ?_
     trivial
    ·skip
     have c7:=h7
     (simp only [bsX] at c7)
     obtain rfl:k=p.ns.length:=by omega
     repeat refine o1 ?_
     trivial
   ·skip
    have c6:=h6
    (simp only [bsX] at c6)
    have e8:=J9 c6;have eh:shP p 0=⟨4,p.k,0,[]⟩::(s6 p++s7 p++s8 p):=Qy9 _;rw [e6,e7,e8] at eh;have ehl:=congrArg Qza eh;refine ⟨Nat,fun k=>⟨[(3,.osl 61 (shP p k).length),(38,Qg p.ns),(39,.i (p.ns.length:Int)),(40,.i (k:Int))],[(61,.rz (shP p k).length 5 (stQ (shP p k)) 48 0)]⟩,fun k=>k≤p.ns.length,fun k=>p.ns.length - k,0,Qy5 _,?_,fun k hx1=>?_⟩
    ·skip
     repeat refine o54 ?_
     trivial
    refine ⟨fun h8=>?_,fun h8=>?_⟩
    ·skip
     have c8:=h8
     (simp only [bsX] at c8)
     have hk:k < p.ns.length:=by omega
     have hM:=WN hk;have hl1:(shP p k).length+1=(shP p (k+1)).length:=by rw [hM];simp
     have hsl:=WS (p:=p) k
     repeat refine o13 ?_
     refine Ql (k+1) ?_
     repeat refine o21 ?_
     trivial
    ·skip
     have c8:=h8
     (simp only [bsX] at c8)
     obtain rfl:k=p.ns.length:=by omega
     repeat refine o1 ?_
     trivial
 ·skip
  have c1:=h1
  (simp only [bsX] at c1)
  have e6:=QhU (by simpa using h1);refine ⟨fun h9=>?_,fun h9=>?_⟩
  ·skip
   have c9:=h9
   (simp only [bsX] at c9)
   have e7:=Qeh c9
   repeat refine o18 ?_
   refine ⟨fun h10=>?_,fun h10=>?_⟩
   ·skip
    have c10:=h10
    (simp only [bsX] at c10)
    have e8:=QaN c10
    repeat refine o18 ?_
    have eh:shP p 0=⟨4,p.k,0,[]⟩::(s6 p++s7 p++s8 p):=Qy9 _;rw [e6,e7,e8] at eh;have ehl:=congrArg Qza eh;refine ⟨Nat,fun k=>⟨[(3,.osl 61 (shP p k).length),(38,Qg p.ns),(39,.i (p.ns.length:Int)),(40,.i (k:Int))],[(61,.rz (shP p k).length 5 (stQ (shP p k)) 48 0)]⟩,fun k=>k≤p.ns.length,fun k=>p.ns.length - k,0,Qy5 _,?_,fun k hx1=>?_⟩
    ·skip
     repeat refine o53 ?_
     trivial
    refine ⟨fun h11=>?_,fun h11=>?_⟩
    ·skip
     have c11:=h11
     (simp only [bsX] at c11)
     have hk:k < p.ns.length:=by omega
     have hM:=WN hk;have hl1:(shP p k).length+1=(shP p (k+1)).length:=by rw [hM];simp
     have hsl:=WS (p:=p) k
     repeat refine o13 ?_
     refine Ql (k+1) ?_
     repeat refine o21 ?_
     trivial
    ·skip
     have c11:=h11
     (simp only [bsX] at c11)
     obtain rfl:k=p.ns.length:=by omega
     repeat refine o1 ?_
     trivial
   ·skip
    have c10:=h10
    (simp only [bsX] at c10)
    have e8:=J9 c10;have eh:shP p 0=⟨4,p.k,0,[]⟩::(s6 p++s7 p++s8 p):=Qy9 _;rw [e6,e7,e8] at eh;have ehl:=congrArg Qza eh;refine ⟨Nat,fun k=>⟨[(3,.osl 61 (shP p k).length),(38,Qg p.ns),(39,.i (p.ns.length:Int)),(40,.i (k:Int))],[(61,.rz (shP p k).length 5 (stQ (shP p k)) 48 0)]⟩,fun k=>k≤p.ns.length,fun k=>p.ns.length - k,0,Qy5 _,?_,fun k hx1=>?_⟩
    ·skip
     repeat refine o54 ?_
     trivial
    refine ⟨fun h12=>?_,fun h12=>?_⟩
    ·skip
     have c12:=h12
     (simp only [bsX] at c12)
     have hk:k < p.ns.length:=by omega
     have hM:=WN hk;have hl1:(shP p k).length+1=(shP p (k+1)).length:=by rw [hM];simp
     have hsl:=WS (p:=p) k
     repeat refine o13 ?_
     refine Ql (k+1) ?_
     repeat refine o21 ?_
     trivial
    ·skip
     have c12:=h12
     (simp only [bsX] at c12)
     obtain rfl:k=p.ns.length:=by omega
     repeat refine o1 ?_
     trivial
  ·skip
   have c9:=h9
   (simp only [bsX] at c9)
   have e7:=QgC (by simpa using h9);refine ⟨fun h13=>?_,fun h13=>?_⟩
   ·skip
    have c13:=h13
    (simp only [bsX] at c13)
    have e8:=QaN c13
    repeat refine o18 ?_
    have eh:shP p 0=⟨4,p.k,0,[]⟩::(s6 p++s7 p++s8 p):=Qy9 _;rw [e6,e7,e8] at eh;have ehl:=congrArg Qza eh;refine ⟨Nat,fun k=>⟨[(3,.osl 61 (shP p k).length),(38,Qg p.ns),(39,.i (p.ns.length:Int)),(40,.i (k:Int))],[(61,.rz (shP p k).length 5 (stQ (shP p k)) 48 0)]⟩,fun k=>k≤p.ns.length,fun k=>p.ns.length - k,0,Qy5 _,?_,fun k hx1=>?_⟩
    ·skip
     repeat refine o54 ?_
     trivial
    refine ⟨fun h14=>?_,fun h14=>?_⟩
    ·skip
     have c14:=h14
     (simp only [bsX] at c14)
     have hk:k < p.ns.length:=by omega
     have hM:=WN hk;have hl1:(shP p k).length+1=(shP p (k+1)).length:=by rw [hM];simp
     have hsl:=WS (p:=p) k
     repeat refine o13 ?_
     refine Ql (k+1) ?_
     repeat refine o21 ?_
     trivial
    ·skip
     have c14:=h14
     (simp only [bsX] at c14)
     obtain rfl:k=p.ns.length:=by omega
     repeat refine o1 ?_
     trivial
   ·skip
    have c13:=h13
    (simp only [bsX] at c13)
    have e8:=J9 c13;have eh:shP p 0=⟨4,p.k,0,[]⟩::(s6 p++s7 p++s8 p):=Qy9 _;rw [e6,e7,e8] at eh;have ehl:=congrArg Qza eh;refine ⟨Nat,fun k=>⟨[(3,.osl 61 (shP p k).length),(38,Qg p.ns),(39,.i (p.ns.length:Int)),(40,.i (k:Int))],[(61,.rz (shP p k).length 5 (stQ (shP p k)) 48 0)]⟩,fun k=>k≤p.ns.length,fun k=>p.ns.length - k,0,Qy5 _,?_,fun k hx1=>?_⟩
    ·skip
     repeat refine o112 ?_
     trivial
    refine ⟨fun h15=>?_,fun h15=>?_⟩
    ·skip
     have c15:=h15
     (simp only [bsX] at c15)
     have hk:k < p.ns.length:=by omega
     have hM:=WN hk;have hl1:(shP p k).length+1=(shP p (k+1)).length:=by rw [hM];simp
     have hsl:=WS (p:=p) k
     repeat refine o13 ?_
     refine Ql (k+1) ?_
     repeat refine o21 ?_
     trivial
    ·skip
     have c15:=h15
     (simp only [bsX] at c15)
     obtain rfl:k=p.ns.length:=by omega
     repeat refine o1 ?_
     trivial
theorem Jv {c:ConfS} {i:Nat} (hi:i < c.ps.length):YV c (i+1)=YV c i++WQ (pA c i):=by
 unfold YV;rw [QeL hi,List.flatMap_append,Qzl];simp
theorem ZI {c:ConfS} (h:ConfOk c):∀ i,i≤c.ps.length→(YV c i).length≤2+12 * i
 | 0,_=>by
  show ((c1S c++c2S c)++[]).length≤2;unfold c1S c2S;split <;> split <;> simp
 | i+1,hi=>by
  rw [Jv (by omega),Qy4];have:=ZI h i (by omega);have:=WS (p:=pA c i) (pA c i).ns.length;have:=(h.ps _ (QY (c:=c) (i:=i) (by omega))).1.nl;show _+(shP (pA c i) (pA c i).ns.length).length≤_;omega
theorem Qw1 (c:ConfS):∀ s∈JU c,s.k≠10→s.p=[]:=by
 intro s hs hk;rcases Qze.1 hs with hs | hs
 ·rcases Qze.1 hs with hs | hs
  ·unfold c1S at hs;split at hs
   ·cases hs
   ·rw [Qzd] at hs;subst hs;rfl
  ·unfold c2S at hs;split at hs
   ·rw [Qzd] at hs;subst hs;rfl
   ·cases hs
 ·obtain ⟨p,_,hs⟩:=List.mem_flatMap.1 hs;exact Qur p s hs hk
theorem Qw2 {c:ConfS} (h:ConfOk c):Cf Tryz.prog 39 [] [Qp c] [] (.tup [.lz (JU c).length 5 (stQ (JU c)),.i 0]):=by
 have hpl:=h.pl;refine Qs {nl:=[(5,48,5)],fz:=[43]} Tryz.func39 Tryz.ntmps39 ?_;refine clX (Qh h) ?_
 repeat refine o1 ?_
 refine knF ?_;refine ⟨fun h2=>?_,fun h2=>?_⟩
 ·skip
  have c2:=h2
  (simp only [bsX] at c2)
  have e1:=QlX c2
  repeat refine o18 ?_
  refine ⟨fun h3=>?_,fun h3=>?_⟩
  ·skip
   have c3:=h3
   (simp only [bsX] at c3)
   have e2:=QlY c3
   repeat refine o18 ?_
   have eh:YV c 0=c1S c++c2S c:=Qy9 _;rw [e1,e2] at eh;have ehl:=congrArg Qza eh;refine ⟨Nat,fun i=>⟨[(5,.osl 61 (YV c i).length),(32,Qo c.ps),(33,.i (c.ps.length:Int)),(34,.i (i:Int))],[(61,.rz (YV c i).length 5 (stQ (YV c i)) 48 0)]⟩,fun i=>i≤c.ps.length,fun i=>c.ps.length - i,0,Qy5 _,?_,fun i hx1=>?_⟩
   ·skip
    repeat (refine Ob.mk ?_ ?_;focus (first | (exact ehl.symm) | (exact fun _ _ _ _=>rfl) | (rw [eh];exact VU (N:=2) ⟨⟨rfl,rfl,rfl,rfl,rfl⟩,⟨rfl,rfl,rfl,rfl,rfl⟩,trivial⟩) | (exact Qzo _) | (exact Qzr rfl)))
    trivial
   refine ⟨fun h4=>?_,fun h4=>?_⟩
   ·skip
    have c4:=h4
    (simp only [bsX] at c4)
    have hi:i < c.ps.length:=by omega
    have hM:=Jv hi;have hl1:(YV c i).length+(WQ (pA c i)).length=(YV c (i+1)).length:=by rw [hM];simp
    have hsl:=ZI h i (by omega);have hsl1:=ZI h (i+1) hi;have hnl:=(h.ps _ (QY hi)).1.nl
    repeat refine o4 ?_
    refine clX (Xm (p:=pA c i) (by omega)) ?_
    repeat refine o23 ?_
    refine Ql (i+1) ?_
    repeat refine o27 ?_
    trivial
   ·skip
    have c4:=h4
    (simp only [bsX] at c4)
    obtain rfl:i=c.ps.length:=by omega
    have hsl:=ZI h c.ps.length (Qzc _)
    repeat refine o31 ?_
    trivial
  ·skip
   have c3:=h3
   (simp only [bsX] at c3)
   have e2:=QhV c3;have eh:YV c 0=c1S c++c2S c:=Qy9 _;rw [e1,e2] at eh;have ehl:=congrArg Qza eh;refine ⟨Nat,fun i=>⟨[(5,.osl 61 (YV c i).length),(32,Qo c.ps),(33,.i (c.ps.length:Int)),(34,.i (i:Int))],[(61,.rz (YV c i).length 5 (stQ (YV c i)) 48 0)]⟩,fun i=>i≤c.ps.length,fun i=>c.ps.length - i,0,Qy5 _,?_,fun i hx1=>?_⟩
   ·skip
    repeat refine o113 ?_
    trivial
   refine ⟨fun h5=>?_,fun h5=>?_⟩
   ·skip
    have c5:=h5
    (simp only [bsX] at c5)
    have hi:i < c.ps.length:=by omega
    have hM:=Jv hi;have hl1:(YV c i).length+(WQ (pA c i)).length=(YV c (i+1)).length:=by rw [hM];simp
    have hsl:=ZI h i (by omega);have hsl1:=ZI h (i+1) hi;have hnl:=(h.ps _ (QY hi)).1.nl
    repeat refine o4 ?_
    refine clX (Xm (p:=pA c i) (by omega)) ?_
    repeat refine o23 ?_
    refine Ql (i+1) ?_
    repeat refine o27 ?_
    trivial
   ·skip
    have c5:=h5
    (simp only [bsX] at c5)
    obtain rfl:i=c.ps.length:=by omega
    have hsl:=ZI h c.ps.length (Qzc _)
    repeat refine o31 ?_
    trivial
 ·skip
  have c2:=h2
  (simp only [bsX] at c2)
  have e1:=Qpj (by simpa using h2);refine ⟨fun h6=>?_,fun h6=>?_⟩
  ·skip
   have c6:=h6
   (simp only [bsX] at c6)
   have e2:=QlY c6
   repeat refine o18 ?_
   have eh:YV c 0=c1S c++c2S c:=Qy9 _;rw [e1,e2] at eh;have ehl:=congrArg Qza eh;refine ⟨Nat,fun i=>⟨[(5,.osl 61 (YV c i).length),(32,Qo c.ps),(33,.i (c.ps.length:Int)),(34,.i (i:Int))],[(61,.rz (YV c i).length 5 (stQ (YV c i)) 48 0)]⟩,fun i=>i≤c.ps.length,fun i=>c.ps.length - i,0,Qy5 _,?_,fun i hx1=>?_⟩
   ·skip
    repeat refine o113 ?_
    trivial
   refine ⟨fun h7=>?_,fun h7=>?_⟩
   ·skip
    have c7:=h7
    (simp only [bsX] at c7)
    have hi:i < c.ps.length:=by omega
    have hM:=Jv hi;have hl1:(YV c i).length+(WQ (pA c i)).length=(YV c (i+1)).length:=by rw [hM];simp
    have hsl:=ZI h i (by omega);have hsl1:=ZI h (i+1) hi;have hnl:=(h.ps _ (QY hi)).1.nl
    repeat refine o4 ?_
    refine clX (Xm (p:=pA c i) (by omega)) ?_
    repeat refine o23 ?_
    refine Ql (i+1) ?_
    repeat refine o27 ?_
    trivial
   ·skip
    have c7:=h7
    (simp only [bsX] at c7)
    obtain rfl:i=c.ps.length:=by omega
    have hsl:=ZI h c.ps.length (Qzc _)
    repeat refine o31 ?_
    trivial
  ·skip
   have c6:=h6
   (simp only [bsX] at c6)
   have e2:=QhV c6;have eh:YV c 0=c1S c++c2S c:=Qy9 _;rw [e1,e2] at eh;have ehl:=congrArg Qza eh;refine ⟨Nat,fun i=>⟨[(5,.osl 61 (YV c i).length),(32,Qo c.ps),(33,.i (c.ps.length:Int)),(34,.i (i:Int))],[(61,.rz (YV c i).length 5 (stQ (YV c i)) 48 0)]⟩,fun i=>i≤c.ps.length,fun i=>c.ps.length - i,0,Qy5 _,?_,fun i hx1=>?_⟩
   ·skip
    repeat (refine Ob.mk ?_ ?_;focus (first | (exact ehl.symm) | (exact fun _ _ _ _=>rfl) | (rw [eh];exact VU (N:=0) trivial) | (exact Qzo _) | omega))
    trivial
   refine ⟨fun h8=>?_,fun h8=>?_⟩
   ·skip
    have c8:=h8
    (simp only [bsX] at c8)
    have hi:i < c.ps.length:=by omega
    have hM:=Jv hi;have hl1:(YV c i).length+(WQ (pA c i)).length=(YV c (i+1)).length:=by rw [hM];simp
    have hsl:=ZI h i (by omega);have hsl1:=ZI h (i+1) hi;have hnl:=(h.ps _ (QY hi)).1.nl
    repeat refine o4 ?_
    refine clX (Xm (p:=pA c i) (by omega)) ?_
    repeat refine o23 ?_
    refine Ql (i+1) ?_
    repeat refine o27 ?_
    trivial
   ·skip
    have c8:=h8
    (simp only [bsX] at c8)
    obtain rfl:i=c.ps.length:=by omega
    have hsl:=ZI h c.ps.length (Qzc _)
    repeat refine o31 ?_
    trivial
theorem Qus {c:ConfS} (h:ConfOk c):Cf Tryz.prog 39 [] [Qp c] [] (.tup [Wz (JU c),.i 0]) :=
 Cf.resAv (by show AV.tup [_,_]=AV.tup [_,_];rw [QaY (Qw1 c)]) (Qw2 h)
end
section
open Go.RowKit Go.Lib
def QB (p q:PeerS):Bool:=(((decide (p.k=q.k) && decide (p.s=q.s)) && decide (p.e=q.e)) && decide (p.a=q.a)) && decide (p.ns=q.ns)
theorem QH {p q:PeerS}:QB p q=true↔p=q:=by
 unfold QB;simp only [Qzg,decide_eq_true_eq];constructor
 ·rintro ⟨⟨⟨⟨h1,h2⟩,h3⟩,h4⟩,h5⟩;cases p;cases q;simp only at h1 h2 h3 h4 h5;subst h1 h2 h3 h4 h5;rfl
 ·rintro rfl;exact ⟨⟨⟨⟨rfl,rfl⟩,rfl⟩,rfl⟩,rfl⟩
def Qr:List PeerS→List PeerS→Bool
 | [],[]=>true
 | p::ps,q::qs=>QB p q && Qr ps qs
 | _,_=>false
theorem Qj:∀ {ps qs:List PeerS},Qr ps qs=true↔ps=qs
 | [],[]=>⟨fun _=>rfl,fun _=>rfl⟩
 | [],q::qs=>⟨fun h=>(by cases h),fun h=>(by cases h)⟩
 | p::ps,[]=>⟨fun h=>(by cases h),fun h=>(by cases h)⟩
 | p::ps,q::qs=>by
  unfold Qr;rw [Qzg,QH,Qj,List.cons.injEq]
def WR (a b:ConfS):Bool:=(decide (a.k=b.k) && decide (a.port=b.port)) && Qr a.ps b.ps
theorem W6 {a b:ConfS}:WR a b=true↔a=b:=by
 unfold WR;rw [Qzg,Qzg,decide_eq_true_eq,decide_eq_true_eq,Qj];constructor
 ·rintro ⟨⟨h1,h2⟩,h3⟩;cases a;cases b;simp only at h1 h2 h3;subst h1 h2 h3;rfl
 ·rintro rfl;exact ⟨⟨rfl,rfl⟩,rfl⟩
theorem QO {A:Type} {d:A} {l m:List A} (hl:l.length=m.length) (h:∀ i,i < l.length→l.getD i d=m.getD i d):l=m:=by
 refine List.ext_getElem hl fun i h1 h2=>?_;have:=h i h1;rw [Qy3,Qy3,Qy6 h1,Qy6 h2] at this;exact this
theorem W7 {ps qs:List PeerS} (h:¬ ps.length=qs.length):Qr ps qs=false:=by
 cases e:Qr ps qs with
 | false=>rfl
 | true=>exact absurd (congrArg Qza (Qj.1 e)) h
theorem ZH {ps qs:List PeerS} {i:Nat} (h:QB (ps.getD i Qa) (qs.getD i Qa)=false):Qr ps qs=false:=by
 cases e:Qr ps qs with
 | false=>rfl
 | true =>
  rw [Qj.1 e,QH.2 rfl] at h;cases h
theorem W8 {ps qs:List PeerS} (hl:ps.length=qs.length) (h:∀ j,j < ps.length→QB (ps.getD j Qa) (qs.getD j Qa)=true):Qr ps qs=true :=
 Qj.2 (QO hl fun i hi=>QH.1 (h i hi))
theorem Ya {ns ms:List (List Bool)} (hl:ns.length≤1000) (hn:∀ x∈ns,x.length≤32) (hm:ms.length≤1000):Cf Tryz.prog 68 [] [Qg ns,Qg ms] [] (.b (decide (ns=ms))):=by
 refine QV {} Tryz.func68 Tryz.ntmps68 ?_;refine ⟨fun h1=>?_,fun h1=>?_⟩
 ·skip
  have c1:=h1
  (simp only [bsX] at c1)
  have hR:decide (ns=ms)=false:=decide_eq_false fun e=>by (rw [e] at c1;omega)
  repeat refine o8 ?_
  trivial
 ·skip
  have c1:=h1
  (simp only [bsX] at c1)
  have hle:ns.length=ms.length:=by omega
  refine ⟨Nat,fun i=>⟨[(0,Qg ns),(1,Qg ms),(12,.i (ns.length:Int)),(13,.i (i:Int))],[]⟩,fun i=>i≤ns.length ∧ ∀ j,j < i→ns.getD j []=ms.getD j [],fun i=>ns.length - i,0,⟨Qy5 _,fun j hj=>absurd hj (Nat.not_lt_zero _)⟩,?_,fun i hx1=>?_⟩
  ·skip
   repeat refine o7 ?_
   trivial
  refine ⟨fun h2=>?_,fun h2=>?_⟩
  ·skip
   have c2:=h2
   (simp only [bsX] at c2)
   have hi:i < ns.length:=by omega
   refine ⟨[0,0,3,7,0,0,48,112,255],by kernel_rfl,?_⟩
   repeat refine o4 ?_
   refine ⟨fun h3=>?_,fun h3=>?_⟩
   ·skip
    have c3:=h3
    (simp only [bsX] at c3)
    have hR:decide (ns=ms)=false:=decide_eq_false fun e=>by (subst e;simp at h3)
    repeat refine o8 ?_
    trivial
   ·skip
    have c3:=h3
    (simp only [bsX] at c3)
    have hE:ns.getD i []=ms.getD i []:=of_decide_eq_true ((YS (ZQ hn i)).symm.trans (by simpa using h3));have hnx:i+1≤ns.length ∧ ∀ j,j < i+1→ns.getD j []=ms.getD j []:=⟨hi,fun j hj=>(Nat.lt_or_ge j i).elim (hx1.2 j) fun q=>by rw [show j=i from by omega];exact hE⟩
    repeat refine o3 ?_
    refine Ql (i+1) ?_
    repeat refine o7 ?_
    trivial
  ·skip
   have c2:=h2
   (simp only [bsX] at c2)
   have hR:decide (ns=ms)=true:=decide_eq_true (QO hle fun j hj=>hx1.2 j (by omega))
   repeat refine o8 ?_
   trivial
theorem Wc {p q:PeerS} (hp:PeerOk p) (hq:PeerOk q):Cf Tryz.prog 68 [] [Qg p.ns,Qg q.ns] [] (.b (decide (p.ns=q.ns))):=Ya (Qzq hp.nl (by decide)) hp.nb (Qzq hq.nl (by decide))
theorem Za {p q:PeerS} (hp:PeerOk p) (hq:PeerOk q):Cf Tryz.prog 67 [] [ZS p,ZS q] [] (.b (QB p q)):=by
 refine Qs {} Tryz.func67 Tryz.ntmps67 ?_
 repeat refine o19 ?_
 refine gx (fun hc=>(Wc hp hq)) (fun hk=>⟨hk,?_⟩)
 repeat refine o24 ?_
 trivial
theorem Wj {ps qs:List PeerS} (hl:ps.length≤1000) (hp:∀ p∈ps,PeerOk p) (hq:∀ p∈qs,PeerOk p):Cf Tryz.prog 66 [] [Qo ps,Qo qs,.v (.func (.func 67) #[] #[])] [] (.b (Qr ps qs)):=by
 refine Qs {} Tryz.func66 Tryz.ntmps66 ?_;refine ⟨fun h1=>?_,fun h1=>?_⟩
 ·skip
  have c1:=h1
  (simp only [bsX] at c1)
  have hR:=W7 (ps:=ps) (qs:=qs) (by omega)
  repeat refine o8 ?_
  trivial
 ·skip
  have c1:=h1
  (simp only [bsX] at c1)
  have hle:ps.length=qs.length:=by omega
  refine ⟨Nat,fun i=>⟨[(1,Qo qs),(2,.v (.func (.func 67) #[] #[])),(15,Qo ps),(16,.i (ps.length:Int)),(17,.i (i:Int))],[]⟩,fun i=>i≤ps.length ∧ ∀ j,j < i→QB (ps.getD j Qa) (qs.getD j Qa)=true,fun i=>ps.length - i,0,⟨Qy5 _,fun j hj=>absurd hj (Nat.not_lt_zero _)⟩,?_,fun i hx1=>?_⟩
  ·skip
   repeat refine o7 ?_
   trivial
  refine ⟨fun h2=>?_,fun h2=>?_⟩
  ·skip
   have c2:=h2
   (simp only [bsX] at c2)
   have hi:i < ps.length:=by omega
   repeat refine o4 ?_
   refine clX (Za (p:=ps.getD i Qa) (q:=qs.getD i Qa) (hp _ (QY (c:=⟨[],0,ps⟩) hi)) (hq _ (QY (c:=⟨[],0,qs⟩) (show i < qs.length by omega)))) ?_
   repeat refine o7 ?_
   refine ⟨fun h3=>?_,fun h3=>?_⟩
   ·skip
    have c3:=h3
    (simp only [bsX] at c3)
    have hR:=ZH (ps:=ps) (qs:=qs) (i:=i) (by simpa using h3)
    repeat refine o8 ?_
    trivial
   ·skip
    have c3:=h3
    (simp only [bsX] at c3)
    have hE:QB (ps.getD i Qa) (qs.getD i Qa)=true:=by simpa using h3
    have hnx:i+1≤ps.length ∧ ∀ j,j < i+1→QB (ps.getD j Qa) (qs.getD j Qa)=true:=⟨hi,fun j hj=>(Nat.lt_or_ge j i).elim (hx1.2 j) fun q=>by rw [show j=i from by omega];exact hE⟩
    repeat refine o3 ?_
    refine Ql (i+1) ?_
    repeat refine o7 ?_
    trivial
  ·skip
   have c2:=h2
   (simp only [bsX] at c2)
   have hR:=W8 hle fun j hj=>hx1.2 j (by omega)
   repeat refine o8 ?_
   trivial
theorem WM {a b:ConfS} (ha:ConfOk a) (hb:ConfOk b):Cf Tryz.prog 24 [] [Qp a,Qp b] [] (.b (WR a b)):=by
 refine Qs {} Tryz.func24 Tryz.ntmps24 ?_
 repeat refine o19 ?_
 refine gx (fun hc=>(Wj (ps:=a.ps) (qs:=b.ps) (Qzq ha.pl (by decide)) (fun p hp=>(ha.ps p hp).1) (fun p hp=>(hb.ps p hp).1))) (fun hk=>⟨hk,?_⟩)
 repeat refine o24 ?_
 trivial
end
section
open Go.Lib
theorem Vl (l:List RawS):∀ i,∀ p∈(QZ l i).2,p.ns.length≤3
 | 0,p,h=>by cases h
 | i+1,p,h=>by
  have c3:Yw (rA l (i+1))≤3:=by
   have h2:=QW (rA l (i+1)).k (m:=4) (by decide);unfold Yw;omega
  unfold QZ at h;split at h
  ·rcases Qze.1 h with h | h
   ·exact Vl l i p h
   ·rw [Qzd] at h;subst h;show (Zp (XT (rA l (i+1)) (QZ l i).1 (Yw (rA l (i+1))))).length≤3;rw [Xf];exact Qzq (Xy _ _ _) c3
  ·exact Vl l i p h
theorem Qut (l:List RawS):∀ p∈(Yj l).ps,p.ns.length≤3:=Vl l _
def tl1 (x:SetS):Nat:=(YG (ls1 x)).length+1
def tlS (L:List SetS):Nat:=(L.map tl1).sum
theorem Qbt (A B:List SetS):tlS (A++B)=tlS A+tlS B:=by unfold tlS;rw [List.map_append,List.sum_append]
theorem XB (a:SetS) (B:List SetS):tlS (a::B)=tl1 a+tlS B:=by unfold tlS;rw [Qy8,List.sum_cons]
theorem Qc8:tlS []=0:=rfl
theorem Quu:∀ L:List SetS,(jtx (L.map ls1)).length≤tlS L
 | []=>Qzc _
 | [x]=>by unfold jtx tlS tl1;rw [Qy8,Qzt,Qy8,Qzt,Lib.join_one];simp
 | x::y::r=>by
  have ih:=Quu (y::r);rw [XB];unfold jtx at ih ⊢;rw [Qy8,Qy8,Qy8,Qy8,Wo,Qy4,Qy4];rw [Qy8,Qy8] at ih;unfold tl1;simp only [Qy7,Qzb] at ih ⊢;omega
theorem QgM {x:SetS} (h:QP x=0):tl1 x=(wrd x.k.toNat).length+1+(Zy x).length+1:=by
 unfold tl1;have e:ls1 x=(wrd x.k.toNat,Zy x):=congrArg Prod.fst (QgI h);rw [e];show (wrd x.k.toNat++61::Zy x).length+1=_;rw [Qy4,Qy7];omega
theorem valK {k:Int} {t:List UInt8} (hk:k=1∨k=4∨k=7):Zy ⟨k,t,0,[]⟩=t:=by
 rcases hk with rfl | rfl | rfl <;> simp [Zy,isN]
theorem val6 {t:List UInt8} (h:t≠[]):Zy ⟨6,t,0,[]⟩=t:=by simp [Zy,isN,h]
theorem tl_1 {t:List UInt8} (h:WA t=0):tl1 ⟨1,t,0,[]⟩≤77:=by
 rw [QgM ((chk1 t).trans h),valK (.inl rfl)];have:=(YH h).2;show (wrd 1).length+1+t.length+1≤77;have:(wrd 1).length=11:=by decide
 omega
theorem tl_4 {t:List UInt8} (h:WA t=0):tl1 ⟨4,t,0,[]⟩≤77:=by
 rw [QgM ((Qrb t).trans h),valK (.inr (.inl rfl))];have:=(YH h).2;show (wrd 4).length+1+t.length+1≤77;have:(wrd 4).length=10:=by decide
 omega
theorem tl_6 {t:List UInt8} (h:t≠WT∧WA t=0):tl1 ⟨6,t,0,[]⟩≤80:=by
 have hl:=(YH h.2).2;rw [QgM (chk6 (.inr h)),val6 (fun q=>by rw [q] at hl;cases hl)];show (wrd 6).length+1+t.length+1≤80;have:(wrd 6).length=13:=by decide
 omega
theorem tl_7 {t:List UInt8} (h:Y3 t=0):tl1 ⟨7,t,0,[]⟩≤31:=by
 rw [QgM ((chk7 t).trans h),valK (.inr (.inr rfl))];have:=(Qcg h).2;show (wrd 7).length+1+t.length+1≤31;have:(wrd 7).length=8:=by decide
 omega
theorem tl_N {k n:Int} (hk:k=2∨k=8) (h:0≤n∧n≤65535):tl1 ⟨k,[],n,[]⟩≤96:=by
 have hc:QP ⟨k,[],n,[]⟩=0:=by
  rcases hk with rfl | rfl
  ·exact chk2 h
  ·exact chk8 h
 have:=(XA (x:=⟨k,[],n,[]⟩) hc (Qy5 _)).2.2;unfold tl1;omega
theorem tl_10 {p:List Bool} (h:p.length≤32):tl1 (n10 p)≤33:=by
 unfold n10;rw [QgM (Qub p),QgJ rfl];have:=(QjV h).2;show (wrd 10).length+1+(Qcf p).length+1≤33;have:(wrd 10).length=10:=by decide
 omega
theorem Qpq:∀ {M:List (List Bool)},(∀ n∈M,n.length≤32)→tlS (M.map n10)≤33 * M.length
 | [],_=>Qzc _
 | n::M,h=>by
  have ih:=Qpq (M:=M) fun x hx=>h x (Qzh _ hx);have:=tl_10 (h n (Qzv ..));rw [Qy8,XB,Qy7];omega
theorem Qw3 {p:PeerS} (h:PeerOk p):tlS (WQ p)≤284+33 * p.ns.length:=by
 show tlS ((⟨4,p.k,0,[]⟩::(s6 p++s7 p++s8 p))++(p.ns.take p.ns.length).map n10)≤_;rw [QaP,Qbt,XB,Qbt,Qbt];have a:=tl_4 h.k;have b:=Qpq h.nb
 have c:tlS (s6 p)≤80:=by
  by_cases e:p.s=[]
  ·rw [QhU e];exact Qy5 _
  ·rw [QlW e,XB,Qc8];have:=tl_6 (h.s.resolve_left e);omega
 have d:tlS (s7 p)≤31:=by
  by_cases e:p.e=[]
  ·rw [QgC e];exact Qy5 _
  ·rw [Qeh e,XB,Qc8];have:=tl_7 (h.e.resolve_left e);omega
 have f:tlS (s8 p)≤96:=by
  by_cases e:0 < p.a
  ·rw [QaN e,XB,Qc8];have:=tl_N (.inr rfl) h.a;omega
  ·rw [J9 e];exact Qy5 _
 omega
theorem Ql7:∀ {ps:List PeerS},(∀ p∈ps,PeerOk p∧p.ns.length≤3)→tlS (ps.flatMap WQ)≤383 * ps.length∧(ps.flatMap WQ).length≤7 * ps.length
 | [],_=>⟨Qzc _,Qzc _⟩
 | p::ps,h=>by
  obtain ⟨a,b⟩:=Ql7 (ps:=ps) fun x hx=>h x (Qzh _ hx);obtain ⟨c,d⟩:=h p (Qzv ..);have e:=Qw3 c;have f:=WS (p:=p) p.ns.length;have f2:(WQ p).length≤4+p.ns.length:=f;rw [List.flatMap_cons,Qbt,Qy4,Qy7];omega
theorem Qh1 {c:ConfS} (h:ConfOk c) (h3:∀ p∈c.ps,p.ns.length≤3):(JU c).length≤44∧(jtx ((JU c).map ls1)).length≤3000:=by
 have hpl:=h.pl;obtain ⟨a,b⟩:=Ql7 (ps:=c.ps) fun p hp=>⟨(h.ps p hp).1,h3 p hp⟩
 have e:JU c=(c1S c++c2S c)++c.ps.flatMap WQ:=by
  show (c1S c++c2S c)++(c.ps.take c.ps.length).flatMap WQ=_;rw [List.take_length]
 have d:tlS (c1S c)≤77∧(c1S c).length≤1:=by
  by_cases q:c.k=[]
  ·rw [Qpj q];exact ⟨Qy5 _,Qy5 _⟩
  ·rw [QlX q,XB,Qc8];have:=tl_1 (h.k.resolve_left q);exact ⟨by omega,Qzc _⟩
 have f:tlS (c2S c)≤96∧(c2S c).length≤1:=by
  by_cases q:0 < c.port
  ·rw [QlY q,XB,Qc8];have:=tl_N (.inl rfl) h.port;exact ⟨by omega,Qzc _⟩
  ·rw [QhV q];exact ⟨Qy5 _,Qy5 _⟩
 have g:=Quu (JU c);rw [e,Qbt,Qbt] at g;refine ⟨by rw [e,Qy4,Qy4];omega,?_⟩;rw [e];omega
theorem QgN {L:List SetS} (hL:∀ x∈L,Qx x) (hn:L.length≤60) (hlen:(jtx (L.map ls1)).length≤3000):Xh L=(jtx (L.map ls1),0)∧Wm (jtx (L.map ls1))=(L,0,0):=by
 have hM:∀ x∈L.map ls1,lnC x.1 x.2=0:=fun x hx=>by
  obtain ⟨y,hy,rfl⟩:=Qzu.1 hx;exact (XA (hL y hy).1 (hL y hy).2).2.1
 have hb:=QnZ (L:=L.map ls1) (by rw [Qzf];omega) hM hlen;refine ⟨?_,?_⟩
 ·unfold Xh;rw [Qgs fun x hx=>congrArg Prod.snd (QgI (hL x hx).1),if_pos rfl];exact hb.1
 ·unfold Wm;rw [hb.2,if_pos rfl]
  rw [Quh fun x hx=>by
   obtain ⟨y,hy,rfl⟩:=Qzu.1 hx
   exact congrArg Prod.snd (XA (hL y hy).1 (hL y hy).2).1,List.map_map]
  have e:L.map (rs1 ∘ ls1)=L:=(List.map_congr_left (g:=id) fun x hx=>congrArg Prod.fst (XA (hL x hx).1 (hL x hx).2).1).trans (List.map_id _);rw [e]
end
section
open Go.RowKit Go.Lib
theorem QjA {c:ConfS} (h:ConfOk c) (h3:∀ p∈c.ps,p.ns.length≤3):Cf Tryz.prog 40 [] [Qp c] [] (.tup [.s (jtx ((JU c).map ls1)),.i 0]):=by
 have hs:=Qh1 h h3;have hb:=(QgN (L:=JU c) (QaQ h) (by omega) hs.2).1;have hP:=Qrg (L:=JU c) (fun x hx=>Xz (QaQ h x hx).1 (QaQ h x hx).2) (by omega);rw [hb] at hP;have hA:=Qus h;have hS44:=hs.1;refine Qs {} Tryz.func40 Tryz.ntmps40 ?_;refine clX hA ?_
 repeat refine o1 ?_
 refine knF ?_;refine clX hP ?_
 repeat refine o1 ?_
 trivial
theorem QjB {l:List RawS} {C:ConfS} {L:List SetS} {s:List UInt8} (hl:∀ x∈l,x.inn) (hn:(l.length:Int)≤9223372036854775807) (eC:Yj l=C) (eL:JU C=L) (es:jtx (L.map ls1)=s):Cf Tryz.prog 13 [] [QR l] [] (.b true):=by
 have hC:ConfOk C:=eC ▸ Yk l;have h3:∀ p∈C.ps,p.ns.length≤3:=eC ▸ Qut l;have hK:=Yo hl hn;rw [eC] at hK;have hs:=Qh1 hC h3;have hsk:=QaQ hC;have hA:=Qus hC;have hT:=QjA hC h3;have hR:=XU (L:=JU C) ZG hsk (by omega);rw [QdQ hC] at hR;have hX:=QgH (c:=Q4) (s:=jtx ((JU C).map ls1)) ZG;have hX2:QaR Q4 (jtx ((JU C).map ls1))=(C,0,0):=by unfold QaR;rw [(QgN hsk (by omega) hs.2).2,if_pos rfl];exact QdQ hC
 rw [hX2] at hX;rw [eL] at hA hT hR hX;rw [es] at hT hX;have hsm:WR C C=true:=W6.2 rfl;have hS44:L.length≤44:=eL ▸ hs.1;refine Qs {} Tryz.func13 Tryz.ntmps13 ?_;refine clX hK ?_
 repeat refine o1 ?_
 refine clX hA ?_
 repeat refine o1 ?_
 refine clX hR ?_
 repeat refine o1 ?_
 refine clX hT ?_
 repeat refine o1 ?_
 refine clX hX ?_
 repeat refine o0 ?_
 refine clX VX ?_
 repeat refine o20 ?_
 refine gx (fun hc=>(WM hC hC)) (fun hk=>⟨hk,?_⟩)
 repeat refine o114 ?_
 refine gx (fun hc=>(WM hC hC)) (fun hk=>⟨hk,?_⟩)
 repeat refine o65 ?_
 trivial
theorem Ql8 {l:List RawS} (hl:∀ x∈l,x.inn) (hn:(l.length:Int)≤9223372036854775807):Cf Tryz.prog 13 [] [QR l] [] (.b true):=QjB hl hn rfl rfl rfl
end
namespace showBack
open Go.ChangeShapes Go.WideShapes Go.ChangeAt Go.RowKit
open Go.ChangeMaps (open_string shut_string)
def QN:List (String×DataW Unit):=[("math/bits.deBruijn32tab",Rows.laid_math_bits_deBruijn32tab),("math/bits.deBruijn64tab",Rows.laid_math_bits_deBruijn64tab),("internal/strconv.uint64pow10",Rows.laid_internal_strconv_uint64pow10),("unicode/utf8.acceptRanges",Rows.laid_unicode_utf8_acceptRanges),("unicode/utf8.first",Rows.laid_unicode_utf8_first)]
theorem Zw {W:World} (h:laidMetH Tryz.prog QN W):Amb W (Vp W):=by
 rw [MakeChecks.laidMetH_plain _ _ _ (by kernel_rfl)] at h;unfold QN at h;exact YT (laidMet.tail (laidMet.tail h))
theorem Z5 (os:Os) (started:os.Started) (H:Type) (enc:TypeId×Value→H) :
  ReturnsInHanded {} Tryz.checked os 13 .any (fun w args=>(Rows.showBackSpec.pre enc Tryz.prog Tryz.f13 Rows.showBackRow.domain false w args∧laidMetH Tryz.prog QN w)∧sizedMet enc Tryz.prog Tryz.f13 (OpenSpec.ofChange Rows.showBackSpec) false w args) (Rows.showBackSpec.post enc Tryz.prog Tryz.f13 false true false false):=by
 refine returnsInHanded_of_change_and (C:=Tryz.checked) (X:=fun w _=>laidMetH Tryz.prog QN w) (fun _ _ _ hh h=>h.of_heap hh) own started (by kernel_rfl) Tryz.func13
  (ChangeSpec.witness_shaped (enc:=enc) (C:=Tryz.checked) (os:=os) (X:=fun w _=>laidMetH Tryz.prog QN w) false (World.laidAll Tryz.prog os QN) #[.slice none 0 0] 8 (World.laidAll_os _ _ _)
   (World.shaped_of_ZipB (by kernel_rfl) (by kernel_rfl)) (by kernel_rfl) (by kernel_rfl) (by kernel_rfl)
   (by rw [MakeChecks.laidMetH_plain _ _ _ (by kernel_rfl)];exact laidMet_laidAll _ (by kernel_rfl) (by kernel_rfl))) ?_
 intro W base args ds gs before hval0 hW hcnd hwt hL _;have hval:∀ (j:Nat) t v,Tryz.f13.params[j]? = some t→args[j]? = some v→Value.okWide Tryz.prog W .any base t v:=hval0;have hW':=hW;obtain ⟨p,q,hA0,hV,rfl,hfz,hnd⟩:=hW;have hA:DataW.TrodAll enc Tryz.prog W 0 (fun _=>true) true Tryz.f13.params.toList args.toList ds p:=hA0;rw [Tryz.params13] at hA hval;obtain ⟨v0,vs0,d0,ds0,p0,q0,hargs,rfl,rfl,h0,r0⟩:=trodAll_cons hA;obtain ⟨rfl,rfl,rfl⟩:=trodAll_nil r0;obtain rfl:args = #[v0]:=by cases args;simp_all
 obtain ⟨rfl,rfl⟩:=trodVars_none hV;have k0:=h0;have lt0:∀ x∈p0,x.block < W.heap.size:=by obtain ⟨m,hm⟩:=k0;exact DataW.trod_lt m _ _ _ hm
 obtain ⟨l0,ok0,z0⟩:=Wb (hval 0 _ v0 rfl rfl) h0;clear hA0 hval0;refine (Z8 (vs:=[_]) (Ql8 ok0.2 (by have:=ok0.1;unfold maxLen at this;omega)) (Zw hL) (Wd z0 VR)).mono fun e W9 ⟨he,bel⟩=>?_;subst he;exact ⟨_,rfl,_,_,_,[],_,[],hW',trodAll_mk1 (shut_bool Tryz.underlying4 _),(trodAll_cons_mk (Below.trod WD (by kernel_rfl) (of_decide_eq_true (by kernel_rfl)) k0 bel lt0) trodAll_mk0),rfl,bel.frame _,fun h=>by cases h⟩
theorem QaS:(Rows.showBackRow.inPlace == Tryz.pinned.checked.prog.inPlace 13)=true:=by kernel_rfl
theorem QaT:(Rows.showBackRow.unfollowed == Tryz.pinned.checked.prog.unfollowed 13)=true:=by kernel_rfl
theorem QaU:(Rows.showBackRow.recurses == Tryz.pinned.checked.prog.recurses 13)=true:=by kernel_rfl
theorem QaV:(Rows.showBackRow.named == Tryz.pinned.checked.prog.varsNamed 13)=true:=by kernel_rfl
theorem QaW:(Rows.showBackRow.plainKeys == Tryz.pinned.checked.prog.plainKeys)=true:=by kernel_rfl
theorem Z6:joinedFacts Tryz.pinned.checked.prog 13 Tryz.f13 Rows.showBackSpec Rows.showBackRow=true:=by
 unfold joinedFacts;exact Qc (Qc (Qc (Qc (Qc (Qc (Qc (Qc (Qc (Qc (Qc (Qc (Qc (Qc (Qc (Qc (Qc (Qc (Qc (Qc (Qc (Qc (Qc (Qc (Qc (Qc (Qc (Qc (Qc (Qc (Qc (by kernel_rfl) Qc6) Qc5) (by kernel_rfl)) (by kernel_rfl)) (by kernel_rfl)) (by kernel_rfl)) (by kernel_rfl)) (by kernel_rfl)) QaS) QaT) QaU) QaV) (by kernel_rfl)) (by kernel_rfl)) (by kernel_rfl)) (by kernel_rfl)) (by kernel_rfl)) (by kernel_rfl)) (by kernel_rfl)) (by kernel_rfl)) (by kernel_rfl)) QaW) (by kernel_rfl)) JX) JW) (YW (by kernel_rfl))) (XV (by kernel_rfl))) (by kernel_rfl)) (by kernel_rfl)) (by kernel_rfl)) (by kernel_rfl)
theorem QaX:Rows.showBackRow.holds Tryz.pinned (OpenSpec.ofChange Rows.showBackSpec) :=
 OpenClaim.holds_of_wide 13 Tryz.f13 rfl rfl rfl rfl rfl rfl rfl ⟨rfl,rfl,rfl,rfl,rfl⟩ rfl rfl rfl rfl rfl (by kernel_rfl) Tryz.func13 Z6
  (of_decide_eq_true (by kernel_rfl)) (by unfold Func.isWrapper;first | (rw [if_pos (by decide +kernel)];kernel_rfl) | (rw [if_neg (by decide +kernel)];exact ⟨rfl,rfl⟩))
  (fun os started H enc _=>Z5 os started H enc)
theorem pw1:Rows.showBackRow.wfByText (OpenSpec.ofChange Rows.showBackSpec)=true:=by kernel_rfl
theorem pw2:Tryz.pinned.checked.prog.mainIs=some ((true,"304393dc0cffdc476f139ebc5f59f91e4654f2b28d5098997c89b056d7c62b16").1,(true,"304393dc0cffdc476f139ebc5f59f91e4654f2b28d5098997c89b056d7c62b16").2.toList):=by kernel_rfl
theorem pw3:false=Tryz.pinned.checked.prog.looks []:=by kernel_rfl
theorem pw4:([22].all fun u=>!Tryz.prog.wantsStandIn u)=true:=by kernel_rfl
theorem pw5:false=Rows.showBackRow.goesBy Tryz.pinned.checked.prog:=by kernel_rfl
theorem pw6:Tryz.prog.funcNamed "cattlecreep/cattlecreepkeep.ShowBack" = some 13:=by kernel_rfl
theorem proved:Rows.ShowBackCardSaid :=
 Claim7.holds_tied_plain_at .later [] [.data,.data,.data,.data,.pinned] true (true,"304393dc0cffdc476f139ebc5f59f91e4654f2b28d5098997c89b056d7c62b16") false
  QaX (fun _ h=>by cases h) pw1 (fun _ h=>by cases h) showBack_row_tie rfl ⟨rfl,rfl⟩ pw2 rfl
  (fun f fn hf hfn=>by
   obtain rfl:f=13:=Option.some.inj (pw6.symm.trans hf) |>.symm;obtain rfl:fn=Tryz.f13:=(Option.some.inj (Tryz.func13.symm.trans hfn)).symm
   exact ⟨pw3,fun j t ht=>by
    rw [Tryz.params13] at ht;have hm:t∈[22]:=by simpa using Array.mem_of_getElem? ht
    exact (show Tryz.prog.wantsStandIn t=false by simpa using List.all_eq_true.1 pw4 t hm)⟩)
  pw5
#print axioms proved
end showBack
end Go.Proofs.YtcebndkiagbddaaGreatDoor
