/- A part of the proof: contracts of functions and what they stand on. Written shorter and merged by a program (pack.py). -/
import Derived.Lib.ItoaNum
import Derived.Lib.AppendIntMem
import Derived.Lib.LaidTab
import Derived.Test.YtcebndkiagbddaaGreatDoorRows
import Derived.Test.YtcebndkiagbddaaGreatDoorK19
set_option linter.unusedVariables false
set_option linter.unusedSimpArgs false
set_option maxRecDepth 100000
set_option maxHeartbeats 4000000
open UInt32 renaming ofNat → Qy3
open List renaming length_append → Qy4, length_cons → Qy6, getD_eq_getElem?_getD → Qy7, length_nil → Qy8, mem_singleton → Qza, getElem?_eq_getElem → Qzb, take_length → Qzc, pairwise_singleton → Qzf, nodup_append → Qzg, mem_append → Qzi, pairwise_cons → Qzk, mem_cons → Qzl, getElem?_append_right → Qzm, append_assoc → Qzo, append_nil → Qzp, set_append_right → Qzr, mem_append_left → Qzt, map_congr_left → Qzu, flatMap_append → Qzv, length → Qzw
open Nat renaming le_of_ble_eq_true → Qy5, mod_eq_of_lt → Qy9, zero_add → Qze, le_refl → Qzj, pow_le_pow_right → Qzs
open Eq renaming refl → Qzd
open List.Pairwise renaming nil → Qzh
open Int renaming toNat_natCast → Qzn
open List.Perm renaming refl → Qzq
open Option renaming bind_some → Qzx
namespace Go.Proofs.YtcebndkiagbddaaGreatDoor
section
open Go.RowKit
def endL:List (List UInt8):=[[],[49,46,50,46,51,46,52,58,53],[49,48,46,48,46,48,46,49,58,49,48,48,48],[49,48,46,48,46,48,46,50,58,50,48,48,48],[50,53,53,46,48,46,48,46,49,58,54,53,53,51,53]]
theorem QbV:∀ j:Fin 5,j.val≠0→Y3 (endL.getD j.val [])=0:=by decide +kernel
theorem QbW:∀ j,j < 8→W5 j≠WT:=by decide +kernel
theorem Zo  : Cf Tryz.prog 51 [] [] [] (.lz 5 1 (fun i _=>.s (endL.getD i []))):=by
 refine Qs {} Tryz.func51 Tryz.ntmps51 ?_
 repeat (refine Ob.mk ?_ ?_;focus (first | (intro i hi j hj;(obtain rfl:j=0:=by omega);(have hq:i=0∨i=1∨i=2∨i=3∨i=4:=by omega);rcases hq with rfl | rfl | rfl | rfl | rfl <;> exact Qzd _) | (exact Qzd _)))
 trivial
end
section
open Go.RowKit
def lnc (x:LnP):Nat→EV
 | 0=>.s x.1
 | _=>.s x.2
abbrev lnF (L:List LnP):Nat→Nat→EV:=fun i j=>lnc (L.getD i ([],[])) j
abbrev Qja (L:List LnP):EV:=.lz L.length 2 (lnF L)
theorem Xr {n sz:Nat} {f g:Nat→Nat→EV} {m:List EV} (h1:∀ a,a < n → ∀ j,j < sz→f a j=g a j) (h2:∀ j,j < sz→m.getD j .any=g n j):∀ a,a < n+1 → ∀ j,j < sz→(bif Nat.blt a n then f a j else m.getD ((a - n) * sz+j) .any)=g a j:=by
 intro a ha j hj;by_cases hq:a < n
 ·have:Nat.blt a n=true:=by simpa [Nat.blt_eq] using hq
  rw [this];exact h1 a hq j hj
 ·obtain rfl:a=n:=by omega
  have:Nat.blt a a=false:=by cases hb:Nat.blt a a with | false=>rfl | true=>(rw [Nat.blt_eq] at hb;omega)
  rw [this,Nat.sub_self,Nat.zero_mul,Qze];exact h2 j hj
theorem Qwm (L:List (List UInt8)):∀ i,i < L.length → ∀ j,j < 2→(fun a b=>lnc (V0 (L.getD a [])) b) i j=lnF (L.map V0) i j:=by
 intro i hi j hj;show lnc (V0 (L.getD i [])) j=lnc ((L.map V0).getD i ([],[])) j;rw [Qy7,Qy7,List.getElem?_map,Qzb hi];rfl
theorem Qnd {l:List UInt8} {c:UInt8} (h:c∈l) (hl:l.length≤1100000):Cf Tryz.prog 183 [] [.s l,.s [c]] [] (.tup [.s (bef c l),.s (aft c l),.b true]):=by
 have hT1:(((bef c l).length:Nat):Int).toNat=(bef c l).length:=by omega
 have hT2:(((bef c l).length:Int)+((([c]:List UInt8).length:Nat):Int)).toNat=(bef c l).length+1:=by simp only [List.length_singleton];omega
 have hT3:((([c]:List UInt8).length:Nat):Int)=1:=rfl;have hI:=Qgc (l:=l) (c:=c);rw [Qrq h] at hI;have hle:(bef c l).length+(aft c l).length+1=l.length:=by rw [← congrArg Qzw (Vq h)];simp;omega
 refine QV {} Tryz.func183 Tryz.ntmps183 ?_;refine clX hI ?_
 repeat refine o0 ?_
 refine ⟨fun h1=>?_,fun h1=>?_⟩
 ·skip
  refine ⟨[0,0,3,0,0,0,32,112,248,7,1023,2047],by kernel_rfl,?_⟩
  repeat (refine Ob.mk ?_ ?_;focus (first | (rw [hT3];omega) | (show List.drop ((((bef c l).length:Int)+((([c]:List UInt8).length:Nat):Int)).toNat) l=_;rw [hT2];exact Qrs h) | (show List.take ((((bef c l).length:Nat):Int).toNat) l=_;rw [hT1];exact Qrr h) | (exact Qzd _) | omega))
  trivial
 ·skip
  exfalso;simp at h1
theorem Qne {l:List UInt8} {c:UInt8} (h:c ∉ l):Cf Tryz.prog 183 [] [.s l,.s [c]] [] (.tup [.s l,.s [],.b false]):=by
 have hI:=Qgc (l:=l) (c:=c);rw [QnX h] at hI;refine QV {} Tryz.func183 Tryz.ntmps183 ?_;refine clX hI ?_
 repeat refine o0 ?_
 refine ⟨fun h1=>?_,fun h1=>?_⟩
 ·skip
  exact absurd (show false=true from h1) (by decide)
 ·skip
  repeat refine o0 ?_
  trivial
theorem Qwn {l:List UInt8} {c:UInt8} (hl:l.length≤1100000):Cf Tryz.prog 183 [] [.s l,.s [c]] [] (.tup [.s (bef c l),.s (aft c l),.b (decide (c∈l))]):=by
 by_cases h:c∈l
 ·rw [decide_eq_true h];exact Qnd h hl
 ·rw [decide_eq_false h,Qie h,Qev h];exact Qne h
theorem Qjb {l:List UInt8} {c:UInt8} (hl:l.length≤1100000):Cf Tryz.prog 147 [] [.s l,.s [c]] [] (.tup [.s (bef c l),.s (aft c l),.b (decide (c∈l))]):=by
 refine Qs {} Tryz.func147 Tryz.ntmps147 ?_;refine clX (Qwn (l:=l) (c:=c) hl) ?_
 repeat refine o0 ?_
 trivial
theorem Qgd {k v:List UInt8}:Cf Tryz.prog 161 [] [.agg [.s k,.s v]] [] (.i (lnC k v)):=by
 refine Qs {} Tryz.func161 Tryz.ntmps161 ?_
 repeat refine o41 ?_
 refine ⟨fun h1=>?_,fun h1=>?_⟩
 ·skip
  have c1:=h1
  (simp only [bsX] at c1)
  have hR:lnC k v=1:=by unfold lnC;exact if_pos (by omega)
  repeat refine o25 ?_
  trivial
 ·skip
  have c1:=h1
  (simp only [bsX] at c1)
  have hG:¬ (k.length < 1∨30 < k.length∨70 < v.length):=by omega
  refine ⟨Nat,fun i=>⟨[(1,.own 1001 0),(25,.i (k.length:Int)),(26,.i (i:Int))],[(1001,.box [.s k,.s v] 196)]⟩,fun i=>i≤k.length∧(k.take i).all okK=true,fun i=>k.length - i,0,(by simp),?_,fun i hx1=>?_⟩
  ·skip
   repeat refine o0 ?_
   trivial
  refine ⟨fun h2=>?_,fun h2=>?_⟩
  ·skip
   have c2:=h2
   (simp only [bsX] at c2)
   have hi:i < k.length:=by omega
   repeat (refine Ob.mk ?_ ?_;focus (first | omega | (exact fun hg=>ZL hg) | (exact fun hg=>X6 hg) | (exact fun hg=>hg)))
   refine ⟨fun h3=>?_,fun h3=>?_⟩
   ·skip
    (simp only [Int.reduceToNat,UInt8.reduceOfNat] at h3)
    have c3:=h3
    (simp only [bsX] at c3)
    have hR:lnC k v=3:=Qru hG hi (QxB (by simpa using h3))
    repeat refine o25 ?_
    trivial
   ·skip
    (simp only [Int.reduceToNat,UInt8.reduceOfNat] at h3)
    have c3:=h3
    (simp only [bsX] at c3)
    have hx:=Qe3 hi hx1.2 (f:=okK) (QuO (by simpa using h3))
    repeat refine o3 ?_
    refine ⟨i+1,(by (simp_all;omega)),(by (simp only [SrcE.len,Qze,Qy4,Qy6,Qy8];omega)),?_⟩
    repeat refine o0 ?_
    trivial
  ·skip
   have c2:=h2
   (simp only [bsX] at c2)
   have hi:i=k.length:=by have:=hx1.1;omega
   subst hi;refine ⟨Nat,fun j=>⟨[(1,.own 1001 0),(46,.i (v.length:Int)),(47,.i (j:Int))],[(1001,.box [.s k,.s v] 196)]⟩,fun j=>j≤v.length∧(v.take j).all okV=true,fun j=>v.length - j,0,(by simp),?_,fun j hx2=>?_⟩
   ·skip
    repeat refine o0 ?_
    trivial
   refine ⟨fun h4=>?_,fun h4=>?_⟩
   ·skip
    have c4:=h4
    (simp only [bsX] at c4)
    have hj:j < v.length:=by omega
    repeat refine o83 ?_
    refine ⟨fun h5=>?_,fun h5=>?_⟩
    ·skip
     (simp only [Int.reduceToNat,UInt8.reduceOfNat] at h5)
     have c5:=h5
     (simp only [bsX] at c5)
     have hR:lnC k v=3:=Qrv hG hj (QxC (by simpa using h5))
     repeat refine o25 ?_
     trivial
    ·skip
     (simp only [Int.reduceToNat,UInt8.reduceOfNat] at h5)
     have c5:=h5
     (simp only [bsX] at c5)
     have hy:=Qe3 hj hx2.2 (f:=okV) (QuP (by simpa using h5))
     repeat refine o3 ?_
     refine ⟨j+1,(by (simp_all;omega)),(by (simp only [SrcE.len,Qze,Qy4,Qy6,Qy8];omega)),?_⟩
     repeat refine o0 ?_
     trivial
   ·skip
    have c4:=h4
    (simp only [bsX] at c4)
    have hj:j=v.length:=by have:=hx2.1;omega
    subst hj;have hR:=Qrw hG hx1.2 hx2.2
    repeat refine o25 ?_
    trivial
theorem Qnf {s:List UInt8}:Cf Tryz.prog 117 [] [.s s] [] (.tup [Qja (Qy s).1,.i (Qy s).2.1,.i (Qy s).2.2]):=by
 refine Qs {nl:=[(6,196,2)]} Tryz.func117 Tryz.ntmps117 ?_;refine ⟨fun h1=>?_,fun h1=>?_⟩
 ·skip
  have c1:=h1
  (simp only [bsX] at c1)
  have hR:Qy s=([],0,1):=by unfold Qy;rw [if_pos (by omega)]
  repeat refine o60 ?_
  trivial
 ·skip
  have c1:=h1
  (simp only [bsX] at c1)
  refine ⟨fun h2=>?_,fun h2=>?_⟩
  ·skip
   have c2:=h2
   (simp only [bsX] at c2)
   have hR:Qy s=([],0,0):=by unfold Qy;rw [if_neg (by omega),if_pos (by simpa using h2)]
   repeat refine o60 ?_
   trivial
  ·skip
   have c2:=h2
   (simp only [bsX] at c2)
   refine clX (Qlj (l:=s) (c:=10) (by omega)) ?_
   repeat refine o0 ?_
   refine ⟨fun h3=>?_,fun h3=>?_⟩
   ·skip
    have c3:=h3
    (simp only [bsX] at c3)
    have hR:Qy s=([],0,1):=by unfold Qy;rw [if_neg (by omega),if_neg (by simpa using h2),if_pos (by omega)]
    repeat refine o60 ?_
    trivial
   ·skip
    have c3:=h3
    (simp only [bsX] at c3)
    have hS:Qy s=lnR [] 0 (spl 10 s):=by unfold Qy;rw [if_neg (by omega),if_neg (by simpa using h2),if_neg (by omega)]
    refine ⟨Nat,fun i=>⟨[(6,.osl 1006 i),(24,Qga (spl 10 s)),(25,.i ((spl 10 s).length:Int)),(26,.i (i:Int))],[(1006,.rz i 2 (fun a b=>lnc (V0 ((spl 10 s).getD a [])) b) 196 0)]⟩,fun i=>i≤(spl 10 s).length∧lnR (((spl 10 s).take i).map V0) i ((spl 10 s).drop i)=lnR [] 0 (spl 10 s),fun i=>(spl 10 s).length - i,0,⟨Nat.zero_le _,rfl⟩,?_,fun i hx1=>?_⟩
    ·skip
     repeat refine o11 ?_
     trivial
    refine ⟨fun h4=>?_,fun h4=>?_⟩
    ·skip
     have c4:=h4
     (simp only [bsX] at c4)
     have hi:i < (spl 10 s).length:=by omega
     have hL:=QxD hi (((spl 10 s).take i).map V0);rw [hx1.2] at hL;have hpl:=Qrt (c:=10) (l:=s) i
     repeat refine o4 ?_
     refine clX (Qjb (l:=(spl 10 s).getD i []) (c:=61) (by omega)) ?_
     repeat refine o0 ?_
     refine ⟨fun h5=>?_,fun h5=>?_⟩
     ·skip
      have c5:=h5
      (simp only [bsX] at c5)
      have hm:(61:UInt8) ∉ (spl 10 s).getD i []:=by simpa using h5
      rw [if_neg hm] at hL;have hR:=hS.trans hL
      repeat refine o70 ?_
      trivial
     ·skip
      have c5:=h5
      (simp only [bsX] at c5)
      have hm:(61:UInt8)∈(spl 10 s).getD i []:=by simpa using h5
      rw [if_pos hm] at hL;refine clX (Qgd (k:=bef 61 ((spl 10 s).getD i [])) (v:=aft 61 ((spl 10 s).getD i []))) ?_
      repeat refine o0 ?_
      refine ⟨fun h6=>?_,fun h6=>?_⟩
      ·skip
       have c6:=h6
       (simp only [bsX] at c6)
       rw [if_neg (by simpa using h6)] at hL;have hR:=hS.trans hL
       repeat refine o70 ?_
       trivial
      ·skip
       have c6:=h6
       (simp only [bsX] at c6)
       rw [if_pos (by simpa using h6),← QpB hi] at hL;have hx:=hL.symm
       repeat refine o33 ?_
       refine ⟨i+1,(by (simp_all;omega)),(by (simp only [SrcE.len,Qze,Qy4,Qy6,Qy8];omega)),?_⟩
       repeat refine o84 ?_
       trivial
    ·skip
     have c4:=h4
     (simp only [bsX] at c4)
     have hi:i=(spl 10 s).length:=by have:=hx1.1;omega
     subst hi;have hR:Qy s=((spl 10 s).map V0,0,0):=by rw [hS,← hx1.2,QuQ,Qzc]
     have hml:((spl 10 s).map V0).length=(spl 10 s).length:=List.length_map ..
     repeat (refine Ob.mk ?_ ?_;focus (first | (rw [hR];done) | (rw [hR];exact hml.symm) | (rw [hR];exact Qwm _) | (exact Qzd _)))
     trivial
end
section
open Go.RowKit Go.Lib
theorem gPow:Tryz.prog.globalNamed "internal/strconv.uint64pow10" = some 1:=by kernel_rfl
theorem tPow:(Tryz.prog.globals[1]?).map (·.type)=some 294:=by kernel_rfl
theorem QtK:(Lib.pow10Tab.map fun z=>Value.int .u64 z)=[.int .u64 1,.int .u64 10,.int .u64 100,.int .u64 1000,.int .u64 10000,.int .u64 100000,.int .u64 1000000,.int .u64 10000000,.int .u64 100000000,.int .u64 1000000000,.int .u64 10000000000,.int .u64 100000000000,.int .u64 1000000000000,.int .u64 10000000000000,.int .u64 100000000000000,.int .u64 1000000000000000,.int .u64 10000000000000000,.int .u64 100000000000000000,.int .u64 1000000000000000000,.int .u64 10000000000000000000]:=by kernel_rfl
theorem QtL:Qio=[(1,Lib.pow10Tab.map fun z=>Value.int .u64 z)]:=by rw [QtK];rfl
theorem QwC {w:World} {Pub:Nat→Nat→Prop} (h:Amb w Pub):Lib.TabIs Tryz.prog w "internal/strconv.uint64pow10" .u64 Lib.pow10Tab:=by
 obtain ⟨_,ty,fz,hb⟩:=h (1,Lib.pow10Tab.map fun z=>Value.int .u64 z) (by rw [QtL];exact Qza.2 rfl);unfold Lib.TabIs World.var?;rw [gPow];simp only [Qzx];rw [hb]
theorem QtM:(Rows.laid_internal_strconv_uint64pow10:DataW Unit)=Lib.tabData .u64 Lib.pow10Tab:=by kernel_rfl
theorem YT {rest:List (String×DataW Unit)} {W:World} (h:laidMet Tryz.prog (("internal/strconv.uint64pow10",Rows.laid_internal_strconv_uint64pow10)::rest) W):Amb W (fun b _=>b < W.heap.size):=by
 rw [QtM] at h;have k:=Lib.tabIs_of_head gPow tPow Tryz.underlying294 Tryz.underlying140 (by kernel_rfl) (by kernel_rfl) h;unfold Lib.TabIs World.var? at k;rw [gPow] at k;simp only [Qzx] at k;intro t ht;rw [QtL,Qza] at ht;subst ht;split at k
 ·next cs ty fz hb =>
  cases k;exact ⟨fun _=>(Array.getElem?_eq_some_iff.1 hb).1,ty,fz,hb⟩
 ·cases k
theorem Cf.ofA {P:Program} {f:FuncId} {ags:List EV} {u:Value} (hc:Wp P f=true)
  (h:∀ (w:World) (Pub:Nat→Nat→Prop) (φ:Qt) (vs:List Value),(∀ b i,Pub b i→b < w.heap.size)→Amb w Pub→RAs w Pub φ (avL ags) vs→Calls P f vs.toArray w fun e w'=>e=.returned u∧Below w.heap.size w w'):Cf P f [] ags [] (.v u):=by
 refine ⟨hc,fun E φ Pub w vs e1 e2 I hR=>(h w Pub φ vs I.publ I.amb hR).mono ?_⟩;rintro e w' ⟨rfl,hb⟩;exact ⟨u,φ,Pub,rfl,I.below e1 hb,by unfold EV.av RA RP;rfl⟩
theorem QcZ {n:Int} (h0 : -9223372036854775808≤n) (h1:n≤9223372036854775807):Cf Tryz.prog 73 [] [.i n] [] (.s (Lib.itoa n)) :=
 Cf.ofA (by kernel_rfl) fun w Pub φ vs hp hA hR=>by
  obtain ⟨u,rfl,k1⟩:=ra1 hR;have e1:=Xc k1;subst e1;exact (Tryz.strconv_Itoa n h0 h1 w (QwC hA)).mono fun e w' ⟨e2,k,os,e3⟩=>⟨e2,by rw [e3];exact below_grow _ _ (Qzj _) _ _⟩
theorem Ym {u:Nat} {n:Int} (hn:n=(u:Int)) (h:u < 4294967296):Cf Tryz.prog 73 [] [.i n] [] (.s (Lib.decDigits u)):=by
 subst hn;have:=QcZ (n:=(u:Int)) (by omega) (by omega);have e:Lib.itoa (u:Int)=Lib.decDigits u:=by unfold Lib.itoa;rw [if_neg (by omega),Qzn]
 rw [e] at this;exact this
end
section
open Go.RowKit Go.Lib
def stc (s:SetS):Nat→EV
 | 0=>.i s.k
 | 1=>.s s.t
 | 2=>.i s.n
 | 3=>.u32 (adr s.p)
 | _=>.i (s.p.length:Int)
abbrev stF (L:List SetS):Nat→Nat→EV:=fun i j=>stc (L.getD i Qm) j
abbrev Wz (L:List SetS):EV:=.lz L.length 5 (stF L)
theorem j5 {P:Nat→Prop} (h0:P 0) (h1:P 1) (h2:P 2) (h3:P 3) (h4:P 4):∀ j,j < 5→P j
 | 0,_=>h0
 | 1,_=>h1
 | 2,_=>h2
 | 3,_=>h3
 | 4,_=>h4
theorem QbH {n sz:Nat} {F G:Nat→Nat→EV} (h:∀ i,i < n → ∀ j,j < sz→(F i j).pv=(G i j).pv):(EV.lz n sz F).av=(EV.lz n sz G).av:=by
 unfold EV.av EV.pv;refine congrArg (fun l=>AV.p (PV.sl l n)) ?_
 have e:∀ i∈List.range n,(List.range sz).map (fun j=>(F i j).pv)=(List.range sz).map fun j=>(G i j).pv:=fun i hi =>
  Qzu fun j hj=>h i (List.mem_range.1 hi) j (List.mem_range.1 hj)
 rw [List.flatMap_def,List.flatMap_def,Qzu e]
def stq (s:SetS):Nat→EV
 | 3=>if s.k=10 then .u32 (adr s.p) else .v (.int .u32 0)
 | j=>stc s j
def QtS (F G:Nat→Nat→EV):Nat→Prop
 | 0=>True
 | n+1=>(F n 0=G n 0∧F n 1=G n 1∧F n 2=G n 2∧F n 3=G n 3∧F n 4=G n 4)∧QtS F G n
theorem VU {F G:Nat→Nat→EV}:∀ {N:Nat},QtS F G N → ∀ i,i < N → ∀ j,j < 5→F i j=G i j
 | 0,_,i,hi,_,_=>absurd hi (Nat.not_lt_zero _)
 | n+1,h,i,hi,j,hj=>by
  by_cases e:i=n
  ·subst e;exact j5 (P:=fun j=>F i j=G i j) h.1.1 h.1.2.1 h.1.2.2.1 h.1.2.2.2.1 h.1.2.2.2.2 j hj
  ·exact VU h.2 i (by omega) j hj
end
section
open Go.RowKit
abbrev rA (l:List RawS) (i:Nat):RawS:=l.getD i default
theorem Qge {l:List RawS} (hl:∀ x∈l,x.inn) {i:Nat} (hi:i < l.length):(rA l i).inn:=by
 have e:rA l i=l[i]:=by show l.getD i default=l[i];rw [Qy7,Qzb hi];rfl
 rw [e];exact hl _ (List.getElem_mem hi)
end
section
open Go.RowKit Go.Lib
theorem Qtf {s:List UInt8} (h:((s.length:Int) < 1∨5 < (s.length:Int))∨(1 < (s.length:Int)∧s.getD 0 0=48)):¬ J2 s:=fun ⟨k1,k2,k3,_⟩=>by
 rcases h with (h | h) | ⟨h,h2⟩
 ·omega
 ·omega
 ·exact k3 (by omega) h2
theorem Qqr {s:List UInt8} (h:¬ (((s.length:Int) < 1∨5 < (s.length:Int))∨(1 < (s.length:Int)∧s.getD 0 0=48))):1≤s.length∧s.length≤5∧(1 < s.length→s.getD 0 0≠48):=by
 rw [not_or,not_or,not_and] at h;exact ⟨by omega,by omega,fun k=>h.2 (by omega)⟩
theorem Qxt {s:List UInt8} {most:Int} (h:¬ J2 s):smN s=0∧smE s most=false:=by
 unfold smN smE;rw [if_neg h,if_neg h];exact ⟨rfl,rfl⟩
theorem Qwo {s:List UInt8} {i:Nat} (hi:i < s.length) (h:isD (s.getD i 0)=false):¬ J2 s:=fun ⟨_,_,_,k⟩=>by
 rw [List.all_eq_true] at k;rw [k _ (Qe2 hi)] at h;cases h
theorem Qyn {c:UInt8} (h:c.toNat < 48∨57 < c.toNat):isD c=false:=by
 unfold isD;rcases h with k | k
 ·rw [decide_eq_false (by omega:¬ 48≤c.toNat)];rfl
 ·rw [decide_eq_false (by omega:¬ c.toNat≤57),Bool.and_false]
theorem Qwp {c:UInt8} (h:¬ (c.toNat < 48∨57 < c.toNat)):isD c=true:=by
 unfold isD;rw [decide_eq_true (by omega:48≤c.toNat),decide_eq_true (by omega:c.toNat≤57)];rfl
theorem Qtg {s:List UInt8} {i:Nat} (hi:i < s.length) (h:isD (s.getD i 0)=true):10 * ((Q5 0 (s.take i):Nat):Int)+(((s.getD i 0) - UInt8.ofNat 48).toNat:Int)=((Q5 0 (s.take (i+1)):Nat):Int):=by
 have e:s.take (i+1)=s.take i++[s.getD i 0]:=by
  rw [List.take_add_one,Qzb hi,Qy7,Qzb hi];rfl
 have k:48≤(s.getD i 0).toNat:=by unfold isD at h;rw [Bool.and_eq_true,decide_eq_true_eq] at h;exact h.1
 have k2:(s.getD i 0 - UInt8.ofNat 48).toNat=(s.getD i 0).toNat - 48:=UInt8.toNat_sub_of_le _ _ (by rw [UInt8.le_iff_toNat_le];exact k);rw [e,QjN,XW,V1,k2];omega
theorem Qth {s:List UInt8} {i:Nat} (h:(s.take i).all isD=true) (hi:i≤5):Q5 0 (s.take i) < 100000:=by
 have a:=Qn0 (s.take i) 0 h;have b:10 ^ (s.take i).length≤10 ^ 5:=Qzs (by decide) (by rw [List.length_take];omega);omega
theorem Qlp {s:List UInt8} {most:Int} (hs:s.length≤1100000):Cf Tryz.prog 184 [] [.s s,.i most] [] (.tup [.i (smN s),.b (smE s most)]):=by
 refine Qs {} Tryz.func184 Tryz.ntmps184 ?_
 repeat (refine Ob.mk ?_ ?_;focus (first | (exact fun hg=>X6 hg) | (exact fun hg=>hg) | (intro hg;first | (intro hq;exact Qfd hg (ZL hq)) | (simp at hg;omega))))
 refine ⟨fun h1=>?_,fun h1=>?_⟩
 ·skip
  (simp only [Int.reduceToNat,UInt8.reduceOfNat] at h1)
  have c1:=h1
  (simp only [bsX] at c1)
  have hR:=Qxt (most:=most) (Qtf (s:=s) (by simpa using h1))
  repeat refine o43 ?_
  trivial
 ·skip
  (simp only [Int.reduceToNat,UInt8.reduceOfNat] at h1)
  have c1:=h1
  (simp only [bsX] at c1)
  have hG:=Qqr (s:=s) (by simpa using h1);refine ⟨Nat,fun i=>⟨[(0,.s s),(1,.i most),(6,.i (Q5 0 (s.take i):Nat)),(27,.i (s.length:Int)),(28,.i (i:Int))],[]⟩,fun i=>i≤s.length∧(s.take i).all isD=true,fun i=>s.length - i,0,(by simp),?_,fun i hx1=>?_⟩
  ·skip
   repeat refine o0 ?_
   trivial
  refine ⟨fun h2=>?_,fun h2=>?_⟩
  ·skip
   have c2:=h2
   (simp only [bsX] at c2)
   have hi:i < s.length:=by omega
   repeat refine o83 ?_
   refine ⟨fun h3=>?_,fun h3=>?_⟩
   ·skip
    (simp only [Int.reduceToNat,UInt8.reduceOfNat] at h3)
    have c3:=h3
    (simp only [bsX] at c3)
    have hR:=Qxt (most:=most) (Qwo hi (Qyn (by simpa using h3)))
    repeat refine o43 ?_
    trivial
   ·skip
    (simp only [Int.reduceToNat,UInt8.reduceOfNat] at h3)
    have c3:=h3
    (simp only [bsX] at c3)
    have hD:isD (s.getD i 0)=true:=Qwp (by simpa using h3);have hV:=Qtg hi hD;have hA:=Qe3 hi hx1.2 hD;have hB:=Qth hx1.2 (by omega);have hB2:=Qth hA (by omega)
    repeat (refine Ob.mk ?_ ?_;focus (first | (have:=hV;omega) | (simp_all;omega)))
    refine ⟨i+1,(by (simp_all;omega)),(by (simp only [SrcE.len,Qze,Qy4,Qy6,Qy8];omega)),?_⟩
    repeat (refine Ob.mk ?_ ?_;focus (first | (have:=hV;omega) | (exact Qzd _) | assumption))
    trivial
  ·skip
   have c2:=h2
   (simp only [bsX] at c2)
   have hi:i=s.length:=by have:=hx1.1;omega
   subst hi;have hA:=hx1.2;rw [Qzc] at hA;have hN:J2 s:=⟨hG.1,hG.2.1,hG.2.2,hA⟩;have hZ:smN s=((Q5 0 s:Nat):Int)∧smE s most=decide (((Q5 0 s:Nat):Int)≤most):=by unfold smN smE;rw [if_pos hN,if_pos hN];exact ⟨rfl,rfl⟩
   repeat (refine Ob.mk ?_ ?_;focus (first | (rw [hZ.1,Qzc];done) | (rw [hZ.2,Qzc];done)))
   trivial
def nbN (s:List UInt8) (most:Int):Int:=if smE s most=true then smN s else 0
def nbE (s:List UInt8) (most:Int):Int:=if smE s most=true then 0 else 3
theorem Qbh {s:List UInt8} {most:Int} (hs:s.length≤1100000):Cf Tryz.prog 149 [] [.s s,.i most] [] (.tup [.i (nbN s most),.i (nbE s most)]):=by
 refine Qs {} Tryz.func149 Tryz.ntmps149 ?_;refine clX (Qlp (s:=s) (most:=most) hs) ?_
 repeat refine o0 ?_
 refine ⟨fun h1=>?_,fun h1=>?_⟩
 ·skip
  have hR:nbN s most=0∧nbE s most=3:=by unfold nbN nbE;rw [if_neg (by simpa using h1),if_neg (by simpa using h1)];exact ⟨rfl,rfl⟩
  repeat refine o43 ?_
  trivial
 ·skip
  have hR:nbN s most=smN s∧nbE s most=0:=by unfold nbN nbE;rw [if_pos (by simpa using h1),if_pos (by simpa using h1)];exact ⟨rfl,rfl⟩
  repeat refine o43 ?_
  trivial
def adA (L:List (List UInt8)):Nat→Nat
 | 0=>0
 | i+1=>adA L i * 256+Q5 0 (L.getD i [])
theorem Qti {L:List (List UInt8)}:∀ {i:Nat},(∀ j,j < i→smE (L.getD j []) 255=true)→adA L i < 256 ^ i
 | 0,_=>by show (0:Nat) < 256 ^ 0;decide
 | i+1,h=>by
  have a:=Qti (i:=i) fun j hj=>h j (by omega);have b:=(QbA (h i (by omega))).2.2;show adA L i * 256+Q5 0 (L.getD i []) < 256 ^ (i+1);rw [Nat.pow_succ];omega
theorem Qwq {s:List UInt8} (h:(spl 46 s).length≠4):Yb s=(0,3):=by
 unfold Yb;split
 ·rename_i a b c d e;rw [e] at h;exact absurd rfl h
 ·rfl
theorem Qwr {s:List UInt8} {i:Nat} (h4:(spl 46 s).length=4) (hi:i < 4) (h:smE ((spl 46 s).getD i []) 255=false):Yb s=(0,3):=by
 unfold Yb;split
 ·rename_i a b c d e
  rw [e] at h;refine if_neg fun k=>?_
  match i,hi with
  | 0,_=>exact absurd (k.1.symm.trans h) (by decide)
  | 1,_=>exact absurd (k.2.1.symm.trans h) (by decide)
  | 2,_=>exact absurd (k.2.2.1.symm.trans h) (by decide)
  | 3,_=>exact absurd (k.2.2.2.symm.trans h) (by decide)
 ·rfl
theorem Qtj {s:List UInt8} (h4:(spl 46 s).length=4) (h:∀ j,j < 4→smE ((spl 46 s).getD j []) 255=true):Yb s=(adA (spl 46 s) 4,0):=by
 unfold Yb;split
 ·rename_i a b c d e
  rw [e] at h ⊢;rw [if_pos ⟨h 0 (by decide),h 1 (by decide),h 2 (by decide),h 3 (by decide)⟩];refine Prod.ext ?_ rfl;show ((Q5 0 a * 256+Q5 0 b) * 256+Q5 0 c) * 256+Q5 0 d=(((0 * 256+Q5 0 a) * 256+Q5 0 b) * 256+Q5 0 c) * 256+Q5 0 d;omega
 ·rename_i e
  exfalso
  match q:spl 46 s,h4 with
  | [a,b,c,d],_=>exact e a b c d q
theorem Qyo {x n:Nat} (hx:x < 16777216) (hn:n < 256):Qr9 (Qy3 x) 8 ||| Qy3 n=Qy3 (x * 256+n):=by
 apply UInt32.toNat_inj.1;have e1:(Qy3 x).toNat=x:=by show x % 2 ^ 32=x;exact Qy9 (by omega)
 have e2:(Qy3 n).toNat=n:=by show n % 2 ^ 32=n;exact Qy9 (by omega)
 have e3:(Qy3 (x * 256+n)).toNat=x * 256+n:=by show _ % 2 ^ 32=_;exact Qy9 (by omega)
 rw [UInt32.toNat_or,e2,e3];show (((Qy3 x).toNat <<< 8) % 2 ^ 32) ||| n=_;rw [e1,Nat.shiftLeft_eq,Qy9 (by omega)];have:=Nat.shiftLeft_add_eq_or_of_lt (i:=8) (b:=n) (by omega:n < 2 ^ 8) x;rw [Nat.shiftLeft_eq] at this;rw [← this]
theorem Qef {s:List UInt8} (hl:s.length≤1100000):Cf Tryz.prog 148 [] [.s s] [] (.tup [.u32 (Qy3 (Yb s).1),.i (Yb s).2]):=by
 refine Qs {} Tryz.func148 Tryz.ntmps148 ?_;refine clX (Qlj (l:=s) (c:=46) hl) ?_
 repeat refine o0 ?_
 refine ⟨fun h1=>?_,fun h1=>?_⟩
 ·skip
  have c1:=h1
  (simp only [bsX] at c1)
  have hR:=Qwq (s:=s) (by omega)
  repeat refine o25 ?_
  trivial
 ·skip
  have c1:=h1
  (simp only [bsX] at c1)
  have h4:(spl 46 s).length=4:=by omega
  refine ⟨Nat,fun i=>⟨[(5,.u32 (Qy3 (adA (spl 46 s) i))),(15,Qga (spl 46 s)),(16,.i ((spl 46 s).length:Int)),(17,.i (i:Int))],[]⟩,fun i=>i≤(spl 46 s).length ∧ ∀ j,j < i→smE ((spl 46 s).getD j []) 255=true,fun i=>(spl 46 s).length - i,0,⟨Nat.zero_le _,fun j h=>absurd h (Nat.not_lt_zero j)⟩,?_,fun i hx1=>?_⟩
  ·skip
   repeat refine o7 ?_
   trivial
  refine ⟨fun h2=>?_,fun h2=>?_⟩
  ·skip
   have c2:=h2
   (simp only [bsX] at c2)
   have hi:i < (spl 46 s).length:=by omega
   have hpl:=Qrt (c:=46) (l:=s) i
   repeat refine o4 ?_
   refine clX (Qlp (s:=(spl 46 s).getD i []) (most:=255) (by omega)) ?_
   repeat refine o0 ?_
   refine ⟨fun h3=>?_,fun h3=>?_⟩
   ·skip
    have c3:=h3
    (simp only [bsX] at c3)
    have hR:=Qwr h4 (by omega) (i:=i) (by simpa using h3)
    repeat refine o25 ?_
    trivial
   ·skip
    have c3:=h3
    (simp only [bsX] at c3)
    have hE:smE ((spl 46 s).getD i []) 255=true:=by simpa using h3
    obtain ⟨hn1,hn2,hn3⟩:=QbA hE
    have hAll:∀ j,j < i+1→smE ((spl 46 s).getD j []) 255=true:=fun j hj=>by
     rcases Nat.lt_or_ge j i with q | q
     ·exact hx1.2 j q
     ·obtain rfl:j=i:=by omega
      exact hE
    have hlt:=Qti hx1.2;have hp3:256 ^ i≤256 ^ 3:=Qzs (by decide) (by omega);have hor:=Qyo (x:=adA (spl 46 s) i) (n:=Q5 0 ((spl 46 s).getD i [])) (by omega) (by omega);have hmod:(((Q5 0 ((spl 46 s).getD i []):Nat):Int) % 4294967296).toNat=Q5 0 ((spl 46 s).getD i []):=by omega
    repeat refine o3 ?_
    refine ⟨i+1,(by (simp_all;omega)),(by (simp only [SrcE.len,Qze,Qy4,Qy6,Qy8];omega)),?_⟩
    repeat (refine Ob.mk ?_ ?_;focus (first | (show Qr9 (Qy3 (adA (spl 46 s) i)) 8 ||| Qy3 ((smN ((spl 46 s).getD i [])) % 4294967296).toNat=_;rw [hn2,hmod];exact hor) | (exact Qzd _) | (intro hg;((intro hq;((simp_all;done)))))))
    trivial
  ·skip
   have c2:=h2
   (simp only [bsX] at c2)
   have hi:i=(spl 46 s).length:=by have:=hx1.1;omega
   have hR:=Qtj h4 (by rw [hi,h4] at hx1;exact hx1.2);have hi4:i=4:=by omega
   subst hi4
   repeat refine o25 ?_
   trivial
def Qlq (s:List UInt8):Nat×Int:=if Y3 s=0 then ((Yb (Qe9 s)).1,smN (VO s)) else (0,0)
theorem Qtk (s:List UInt8):(Qe9 s).length≤s.length∧(VO s).length≤s.length:=by
 unfold Qe9 VO;by_cases h:(58:UInt8)∈s
 ·rw [if_pos h,if_pos h];have:=congrArg Qzw (Vq h);rw [Qy4,Qy6] at this;omega
 ·rw [if_neg h,if_neg h];simp
theorem Qlr (s:List UInt8):bef 58 s=Qe9 s∧aft 58 s=VO s:=by
 unfold Qe9 VO;by_cases h:(58:UInt8)∈s
 ·rw [if_pos h,if_pos h];exact ⟨rfl,rfl⟩
 ·rw [if_neg h,if_neg h,Qie h,Qev h];exact ⟨rfl,rfl⟩
theorem Qyp {s:List UInt8} (h:(((58:UInt8) ∉ s∨(Yb (Qe9 s)).2≠0)∨nbE (VO s) 65535≠0)∨nbN (VO s) 65535=0):Y3 s=3∧Qlq s=(0,0):=by
 have e:Y3 s=3:=by
  unfold Y3;refine if_neg fun ⟨k1,k2,k3,k4⟩=>?_;have n1:nbE (VO s) 65535=0:=by unfold nbE;rw [if_pos k3]
  have n2:nbN (VO s) 65535=smN (VO s):=by unfold nbN;rw [if_pos k3]
  rcases h with ((h | h) | h) | h
  ·exact h k1
  ·exact h k2
  ·exact h n1
  ·exact k4 (n2 ▸ h)
 exact ⟨e,by unfold Qlq;rw [e];rfl⟩
theorem Qws {s:List UInt8} (h:¬ ((((58:UInt8) ∉ s∨(Yb (Qe9 s)).2≠0)∨nbE (VO s) 65535≠0)∨nbN (VO s) 65535=0)):Y3 s=0∧Qlq s=((Yb (Qe9 s)).1,nbN (VO s) 65535):=by
 rw [not_or,not_or,not_or] at h;obtain ⟨⟨⟨h1,h2⟩,h3⟩,h4⟩:=h
 have n3:smE (VO s) 65535=true:=by
  cases q:smE (VO s) 65535 with
  | true=>rfl
  | false=>exact absurd (by unfold nbE at h3;rw [q] at h3;exact absurd (by decide) h3) h3
 have n2:nbN (VO s) 65535=smN (VO s):=by unfold nbN;rw [if_pos n3]
 have e:Y3 s=0:=by
  unfold Y3;exact if_pos ⟨Decidable.not_not.1 h1,Decidable.not_not.1 h2,n3,fun q=>h4 (n2.trans q)⟩
 exact ⟨e,by unfold Qlq;rw [if_pos e,n2]⟩
theorem Qtl {s:List UInt8} (hl:s.length≤1100000):Cf Tryz.prog 106 [] [.s s] [] (.tup [.u32 (Qy3 (Qlq s).1),.i (Qlq s).2,.i (Y3 s)]):=by
 have hLn:=Qtk s;have hC:=Qjb (l:=s) (c:=58) hl;rw [(Qlr s).1,(Qlr s).2] at hC;refine Qs {} Tryz.func106 Tryz.ntmps106 ?_;refine clX hC ?_
 repeat refine o0 ?_
 refine clX (Qef (s:=Qe9 s) (by omega)) ?_
 repeat refine o0 ?_
 refine clX (Qbh (s:=VO s) (most:=65535) (by omega)) ?_
 repeat refine o29 ?_
 refine ⟨fun h1=>?_,fun h1=>?_⟩
 ·skip
  have hR:=Qyp (s:=s) (by simpa using h1)
  repeat refine o43 ?_
  trivial
 ·skip
  have hR:=Qws (s:=s) (by simpa using h1)
  repeat refine o43 ?_
  trivial
end
section
open Go.Lib
def ltB (p q:List Bool):Bool:=decide (We p < We q) || (decide (We p=We q) && decide (p.length < q.length))
theorem VH {p q:List Bool}:ltB p q=true↔We p < We q∨We p=We q∧p.length < q.length:=by
 unfold ltB;simp
theorem Qjc (p:List Bool):ltB p p=false:=by
 cases h:ltB p p with
 | false=>rfl
 | true=>have:=VH.1 h;omega
theorem Xd {p q r:List Bool} (h:ltB p q=true) (k:ltB q r=true):ltB p r=true:=by
 have a:=VH.1 h;have b:=VH.1 k;exact VH.2 (by omega)
theorem QoV {p q:List Bool} (hp:p.length≤32) (hn:p≠q) (h:ltB p q=false):ltB q p=true:=by
 refine VH.2 ?_;have a:¬ (We p < We q∨We p=We q∧p.length < q.length):=fun k=>by rw [VH.2 k] at h;cases h
 by_cases e:We p=We q
 ·by_cases l:p.length=q.length
  ·exact absurd (Qe8 l hp e) hn
  ·omega
 ·omega
theorem Qjd {p q:List Bool} (h:ltB p q=true):p≠q:=fun e=>by subst e;rw [Qjc] at h;cases h
def Qlk (p q:List Bool):Int:=if ltB p q=true then -1 else if p=q then 0 else 1
def QdH (x:List Bool):List (List Bool)→List (List Bool)
 | []=>[x]
 | y::r=>if ltB x y=true then y::QdH x r else x::y::r
def Qll (l:List (List Bool)):List (List Bool):=l.foldl (fun r x=>QdH x r) []
def Zp (l:List (List Bool)):List (List Bool):=(Qll l).reverse
theorem Qbg (x:List Bool):∀ r,(QdH x r).Perm (x::r)
 | []=>Qzq _
 | y::r=>by
  unfold QdH;split
  ·exact ((Qbg x r).cons y).trans (List.Perm.swap x y r)
  ·exact Qzq _
theorem Qgf:∀ (l r:List (List Bool)),(l.foldl (fun r x=>QdH x r) r).Perm (r++l)
 | [],r=>by rw [Qzp];exact Qzq _
 | x::l,r=>by
  refine (Qgf l (QdH x r)).trans ?_;refine ((Qbg x r).append_right l).trans ?_;exact List.perm_middle.symm
theorem Xe (l:List (List Bool)):(Zp l).Perm l:=(List.reverse_perm _).trans (Qgf l [])
theorem Xf (l:List (List Bool)):(Zp l).length=l.length:=(Xe l).length_eq
def QoW (r:List (List Bool)):Prop:=r.Pairwise fun a b=>ltB b a=true
theorem QhI (x:List Bool):∀ r:List (List Bool),QoW r→x.length≤32→x ∉ r→QoW (QdH x r)
 | [],_,_,_=>Qzf _ _
 | y::r,h,hl,hn=>by
  obtain ⟨h1,h2⟩:=Qzk.1 h;rw [Qzl,not_or] at hn;unfold QdH;split
  ·next e =>
   refine Qzk.2 ⟨fun z hz=>?_,QhI x r h2 hl hn.2⟩;rcases Qzl.1 ((Qbg x r).mem_iff.1 hz) with k | k
   ·rw [k];exact e
   ·exact h1 z k
  ·next e =>
   have k:ltB y x=true:=QoV hl hn.1 (by cases q:ltB x y;rfl;exact absurd q e);refine Qzk.2 ⟨fun z hz=>?_,h⟩;rcases Qzl.1 hz with rfl | hz
   ·exact k
   ·exact Xd (h1 z hz) k
theorem Qgg:∀ (l r:List (List Bool)),QoW r→(∀ x∈l,x.length≤32)→(r++l).Nodup→QoW (l.foldl (fun r x=>QdH x r) r)
 | [],r,h,_,_=>h
 | x::l,r,h,hl,hn=>by
  have hn2:(QdH x r++l).Nodup:=((((Qbg x r).append_right l).trans List.perm_middle.symm).nodup_iff).2 hn;have hx:x ∉ r:=fun k=>(Qzg.1 hn).2.2 x k x (by simp) rfl;exact Qgg l (QdH x r) (QhI x r h (hl x (by simp)) hx) (fun y hy=>hl y (by simp [hy])) hn2
def Yi (l:List (List Bool)):Prop:=l.Pairwise fun a b=>ltB a b=true
theorem Qng {l:List (List Bool)} (hl:∀ x∈l,x.length≤32) (hn:l.Nodup):Yi (Zp l) :=
 List.pairwise_reverse.2 (Qgg l [] Qzh hl hn)
def swp (l:List (List Bool)) (j:Nat):List (List Bool):=(l.set (j+1) (l.getD j [])).set j (l.getD (j+1) [])
def Qeq:Nat→List (List Bool)→List (List Bool)
 | 0,l=>l
 | j+1,l=>if ltB (l.getD (j+1) []) (l.getD j [])=true then Qeq j (swp l j) else l
def QdI (l:List (List Bool)):Nat→List (List Bool)
 | 0=>l
 | k+1=>Qeq (k+1) (QdI l k)
theorem QoX (l:List (List Bool)) (j:Nat):(swp l j).length=l.length:=by unfold swp;simp
theorem Qlm:∀ (j:Nat) (l:List (List Bool)),(Qeq j l).length=l.length
 | 0,l=>rfl
 | j+1,l=>by
  unfold Qeq;split
  ·rw [Qlm j,QoX]
  ·rfl
theorem Qln (l:List (List Bool)):∀ k,(QdI l k).length=l.length
 | 0=>rfl
 | k+1=>by unfold QdI;rw [Qlm,Qln l k]
theorem QoY (x:List Bool) (post:List (List Bool)):∀ (rp post:List (List Bool)),Qeq rp.length (rp.reverse++x::post)=(QdH x rp).reverse++post
 | [],post=>rfl
 | y::rp,post=>by
  have e:(y::rp).reverse++x::post=rp.reverse++y::x::post:=by simp
  rw [e];show Qeq (rp.length+1) _=_;unfold Qeq QdH
  have g1:(rp.reverse++y::x::post).getD (rp.length+1) []=x:=by
   rw [Qy7,Qzm (by simp)];simp
  have g2:(rp.reverse++y::x::post).getD rp.length []=y:=by
   rw [Qy7,Qzm (by simp)];simp
  rw [g1,g2];split
  ·have e2:swp (rp.reverse++y::x::post) rp.length=rp.reverse++x::(y::post):=by
    unfold swp;rw [g1,g2,Qzr _ _ (by simp),Qzr _ _ (by simp)];simp
   rw [e2,QoY x post rp (y::post)];simp
  ·simp
theorem QoZ (l:List (List Bool)):∀ k,k < l.length→QdI l k=(Qll (l.take (k+1))).reverse++l.drop (k+1)
 | 0,h=>by
  cases l with
  | nil=>cases h
  | cons x l=>rfl
 | k+1,h=>by
  unfold QdI;rw [QoZ l k (by omega),List.drop_eq_getElem_cons h]
  have hl:(Qll (l.take (k+1))).length=k+1:=by
   have:=(Xf (l.take (k+1)));unfold Zp at this;rw [List.length_reverse] at this;rw [this,List.length_take];omega
  have:=QoY (l[k+1]) [] (Qll (l.take (k+1))) (l.drop (k+1+1));rw [hl] at this;rw [this,List.take_succ_eq_append_getElem (i:=k+1) h];unfold Qll;rw [List.foldl_append];rfl
theorem Qtc {l:List (List Bool)} {i:Nat} (h:l.length≤i) (hi:1≤i) (k:i=1∨i≤l.length):QdI l (i - 1)=Zp l:=by
 cases l with
 | nil =>
  rcases k with k | k
  ·subst k;rfl
  ·simp at k;omega
 | cons x l =>
  have e:i - 1 < (x::l).length:=by rcases k with k | k <;> simp at h k ⊢ <;> omega
  have e2:i - 1+1=(x::l).length:=by simp at h e ⊢;omega
  rw [QoZ _ _ e,e2,Qzc,List.drop_length,Qzp];rfl
structure PeerS where
 k:List UInt8
 s:List UInt8
 e:List UInt8
 a:Int
 ns:List (List Bool)
 deriving Inhabited
structure ConfS where
 k:List UInt8
 port:Int
 ps:List PeerS
def Qa:PeerS:=⟨[],[],[],0,[]⟩
def QL (p:List Bool):Nat→EV
 | 0=>.u32 (adr p)
 | _=>.i (p.length:Int)
abbrev Qg (ns:List (List Bool)):EV:=.lz ns.length 2 (fun i j=>QL (ns.getD i []) j)
def Qk (p:PeerS):Nat→EV
 | 0=>.s p.k
 | 1=>.s p.s
 | 2=>.s p.e
 | 3=>.i p.a
 | _=>Qg p.ns
abbrev Qo (ps:List PeerS):EV:=.lz ps.length 5 (fun i j=>Qk (ps.getD i Qa) j)
abbrev Qp (c:ConfS):EV:=.agg [.s c.k,.i c.port,Qo c.ps]
abbrev ZS (p:PeerS):EV:=.agg [.s p.k,.s p.s,.s p.e,.i p.a,Qg p.ns]
structure PeerOk (p:PeerS):Prop where
 k:WA p.k=0
 s:p.s=[]∨(p.s≠WT∧WA p.s=0)
 e:p.e=[]∨Y3 p.e=0
 a:0≤p.a∧p.a≤65535
 nl:p.ns.length≤8
 nb:∀ n∈p.ns,n.length≤32
 ns:Yi p.ns
def Qgh (p q:PeerS):Prop:=Op.bytesLess q.k p.k=false∧q.k≠p.k
structure ConfOk (c:ConfS):Prop where
 k:c.k=[]∨WA c.k=0
 port:0≤c.port∧c.port≤65535
 pl:c.ps.length≤6
 ps:∀ p∈c.ps,PeerOk p∧p.k≠c.k
 inc:c.ps.Pairwise Qgh
 nd:(c.ps.flatMap (·.ns)).Nodup
def Qlo (n:Int):Int:=IntKind.i64.wrap n
def nsK (r:RawS) (k:Nat):List Bool:=Vo r.k (Qlo (r.a+5 * (k:Int))) (Qlo (r.b+(k:Int)))
def XT (r:RawS) (met:List (List Bool)):Nat→List (List Bool)
 | 0=>[]
 | k+1=>if nsK r k∈met++XT r met k then XT r met k else XT r met k++[nsK r k]
theorem Xy (r:RawS) (met:List (List Bool)):∀ k,(XT r met k).length≤k
 | 0=>Qzj _
 | k+1=>by
  have:=Xy r met k;unfold XT;split
  ·omega
  ·rw [Qy4];simp;omega
theorem Qo0 (r:RawS) (met:List (List Bool)) (h:met.Nodup):∀ k,(met++XT r met k).Nodup
 | 0=>by unfold XT;rw [Qzp];exact h
 | k+1=>by
  have ih:=Qo0 r met h k;unfold XT;split
  ·exact ih
  ·next e =>
   rw [← Qzo];refine Qzg.2 ⟨ih,Qzf _ _,fun a ha b hb=>?_⟩;rw [Qza] at hb;subst hb;exact fun k=>e (by rw [← k];exact ha)
theorem QcN (r:RawS) (met:List (List Bool)):∀ k,∀ n∈XT r met k,n.length≤32
 | 0,n,h=>by cases h
 | k+1,n,h=>by
  unfold XT at h;split at h
  ·exact QcN r met k n h
  ·rcases Qzi.1 h with h | h
   ·exact QcN r met k n h
   ·rw [Qza] at h;rw [h];exact Yh
def Yw (r:RawS):Nat:=(pk r.k 4).toNat
def QbF (r:RawS) (i:Nat) (ns:List (List Bool)):PeerS :=
 ⟨W5 i,if pk r.k 3=0 then W5 7 else [],endL.getD (pk r.a 5).toNat [],pk r.b 100,Zp ns⟩
def QI (met:List (List Bool)) (n:List Bool):List (List Bool):=met.filter fun m=>!decide (m=n)
def QZ (l:List RawS):Nat→List (List Bool)×List PeerS
 | 0=>([],[])
 | i+1=>if 0 < pk (rA l (i+1)).k 5 then ((QZ l i).1++XT (rA l (i+1)) (QZ l i).1 (Yw (rA l (i+1))),(QZ l i).2++[QbF (rA l (i+1)) (i+1) (XT (rA l (i+1)) (QZ l i).1 (Yw (rA l (i+1))))])
  else ((Zp (XT (rA l (i+1)) (QZ l i).1 (Yw (rA l (i+1))))).foldl QI ((QZ l i).1++XT (rA l (i+1)) (QZ l i).1 (Yw (rA l (i+1)))),(QZ l i).2)
def Yj (l:List RawS):ConfS:=⟨W5 0,if l.length=0 then 0 else pk (rA l 0).a 65536,(QZ l (min (l.length - 1) 6)).2⟩
theorem Qgi:∀ (ns met:List (List Bool)) (x:List Bool),x∈ns.foldl QI met↔x∈met∧x ∉ ns
 | [],met,x=>by simp
 | n::ns,met,x=>by
  show x∈ns.foldl QI (QI met n)↔_;rw [Qgi ns (QI met n) x];unfold QI;simp only [List.mem_filter,Qzl,not_or,Bool.not_eq_true',decide_eq_false_iff_not];exact ⟨fun ⟨⟨a,b⟩,c⟩=>⟨a,b,c⟩,fun ⟨a,b,c⟩=>⟨⟨a,b⟩,c⟩⟩
theorem Qo1:∀ (ns met:List (List Bool)),met.Nodup→(ns.foldl QI met).Nodup
 | [],met,h=>h
 | n::ns,met,h=>Qo1 ns _ (h.filter _)
theorem QcO:∀ (ns met:List (List Bool)),(ns.foldl QI met).length≤met.length
 | [],met=>Qzj _
 | n::ns,met=>Nat.le_trans (QcO ns _) (List.length_filter_le _ _)
theorem Qje (ns met:List (List Bool)) (h:∀ n∈met,n.length≤32):∀ n∈ns.foldl QI met,n.length≤32:=fun n hn=>h n ((Qgi ns met n).1 hn).1
theorem Qtd:∀ i,i < 8 → ∀ j,j < 8→i < j→Op.bytesLess (W5 j) (W5 i)=false∧W5 j≠W5 i:=by
 unfold W5;decide +kernel
theorem Qte {r:RawS} {i:Nat} {ns:List (List Bool)} (hi:i < 8) (h3:ns.length≤8) (hn:ns.Nodup) (h32:∀ n∈ns,n.length≤32):PeerOk (QbF r i ns):=by
 refine ⟨Ys i hi,?_,?_,?_,?_,fun n h=>h32 n ((Xe ns).mem_iff.1 h),Qng h32 hn⟩
 ·show (if pk r.k 3=0 then W5 7 else [])=[]∨_;by_cases h:pk r.k 3=0
  ·right;show (if pk r.k 3=0 then W5 7 else [])≠WT∧WA (if pk r.k 3=0 then W5 7 else [])=0;rw [if_pos h];exact ⟨QbW 7 (by decide),Ys 7 (by decide)⟩
  ·left;rw [if_neg h]
 ·have h1:=Q0 r.a (m:=5) (by decide);have h2:=QW r.a (m:=5) (by decide);show endL.getD (pk r.a 5).toNat []=[]∨Y3 (endL.getD (pk r.a 5).toNat [])=0;by_cases h:(pk r.a 5).toNat=0
  ·left;rw [h];rfl
  ·right;exact QbV ⟨(pk r.a 5).toNat,by omega⟩ h
 ·have h1:=Q0 r.b (m:=100) (by decide);have h2:=QW r.b (m:=100) (by decide);exact ⟨h1,by show pk r.b 100≤65535;omega⟩
 ·show (Zp ns).length≤8;rw [Xf];exact h3
structure StOk (s:List (List Bool)×List PeerS) (i:Nat):Prop where
 nd:s.1.Nodup
 len:s.1.length≤3 * i
 b32:∀ n∈s.1,n.length≤32
 pl:s.2.length≤i
 ps:∀ p∈s.2,PeerOk p∧∃ j,1≤j∧j≤i∧p.k=W5 j
 inc:s.2.Pairwise Qgh
 fl:(s.2.flatMap (·.ns)).Nodup
 sub:∀ n∈s.2.flatMap (·.ns),n∈s.1
theorem QdJ (l:List RawS):∀ i,i≤6→StOk (QZ l i) i
 | 0,_=>⟨Qzh,Qzj _,fun n h=>(by cases h),Qzj _,fun n h=>(by cases h),Qzh,Qzh,fun n h=>(by cases h)⟩
 | i+1,hi=>by
  have ih:=QdJ l i (by omega)
  have c3:Yw (rA l (i+1))≤3:=by
   have h2:=QW (rA l (i+1)).k (m:=4) (by decide);unfold Yw;omega
  obtain ⟨ns,hns⟩:∃ ns,ns=XT (rA l (i+1)) (QZ l i).1 (Yw (rA l (i+1))):=⟨_,rfl⟩;have nd:=Qo0 (rA l (i+1)) (QZ l i).1 ih.nd (Yw (rA l (i+1)));have nl:=Xy (rA l (i+1)) (QZ l i).1 (Yw (rA l (i+1)));have n32:=QcN (rA l (i+1)) (QZ l i).1 (Yw (rA l (i+1)));have hlen:=ih.len;have hpl:=ih.pl;unfold QZ;rw [← hns] at nd nl n32 ⊢;obtain ⟨d1,d2,d3⟩:=Qzg.1 nd;have b32:∀ n∈(QZ l i).1++ns,n.length≤32:=fun n h=>(Qzi.1 h).elim (ih.b32 n) (n32 n);split
  ·refine ⟨nd,by rw [Qy4];omega,b32,by rw [Qy4];simp;omega,fun p h=>?_,List.pairwise_append.2 ⟨ih.inc,Qzf _ _,fun p hp q hq=>?_⟩,?_,fun n hn=>?_⟩
   ·rcases Qzi.1 h with h | h
    ·obtain ⟨k1,j,j1,j2,j3⟩:=ih.ps p h;exact ⟨k1,j,j1,by omega,j3⟩
    ·rw [Qza] at h;subst h;exact ⟨Qte (by omega) (by omega) d2 n32,i+1,by omega,by omega,rfl⟩
   ·rw [Qza] at hq;subst hq;obtain ⟨_,j,j1,j2,j3⟩:=ih.ps p hp;have:=Qtd j (by omega) (i+1) (by omega) (by omega);unfold Qgh;rw [j3];exact this
   ·rw [Qzv];have e:[QbF (rA l (i+1)) (i+1) ns].flatMap (·.ns)=Zp ns:=by simp [QbF]
    rw [e];refine Qzg.2 ⟨ih.fl,(Xe ns).nodup_iff.2 d2,fun a ha b hb k=>?_⟩;exact d3 a (ih.sub a ha) b ((Xe ns).mem_iff.1 hb) k
   ·rw [Qzv] at hn;have e:[QbF (rA l (i+1)) (i+1) ns].flatMap (·.ns)=Zp ns:=by simp [QbF]
    rw [e] at hn;rcases Qzi.1 hn with h | h
    ·exact Qzt _ (ih.sub n h)
    ·exact List.mem_append_right _ ((Xe ns).mem_iff.1 h)
  ·refine ⟨Qo1 _ _ nd,?_,Qje _ _ b32,by show (QZ l i).2.length≤_;omega,fun p h=>?_,ih.inc,ih.fl,fun n hn=>?_⟩
   ·have:=QcO (Zp ns) ((QZ l i).1++ns);rw [Qy4] at this;show ((Zp ns).foldl QI ((QZ l i).1++ns)).length≤_;omega
   ·obtain ⟨k1,j,j1,j2,j3⟩:=ih.ps p h;exact ⟨k1,j,j1,by omega,j3⟩
   ·refine (Qgi _ _ n).2 ⟨Qzt _ (ih.sub n hn),fun k=>?_⟩;exact d3 n (ih.sub n hn) n ((Xe ns).mem_iff.1 k) rfl
theorem Yk (l:List RawS):ConfOk (Yj l):=by
 have h:=QdJ l (min (l.length - 1) 6) (by omega);have hpl:=h.pl;refine ⟨.inr (Ys 0 (by decide)),?_,by show (QZ l (min (l.length - 1) 6)).2.length≤6;omega,fun p hp=>?_,h.inc,h.fl⟩
 ·show 0≤(if l.length=0 then 0 else pk (rA l 0).a 65536)∧(if l.length=0 then 0 else pk (rA l 0).a 65536)≤65535;split
  ·decide
  ·have h1:=Q0 (rA l 0).a (m:=65536) (by decide);have h2:=QW (rA l 0).a (m:=65536) (by decide);omega
 ·obtain ⟨k1,j,j1,j2,j3⟩:=h.ps p hp;refine ⟨k1,?_⟩;rw [j3];exact (Qtd 0 (by decide) j (by omega) (by omega)).2
end
section
open Go.RowKit Go.Lib
def byA (a:Nat):Nat→Nat
 | 0=>a / 16777216 % 256
 | 1=>a / 65536 % 256
 | 2=>a / 256 % 256
 | _=>a % 256
theorem QaL (a i:Nat):byA a i < 256:=by
 unfold byA;split <;> exact Nat.mod_lt _ (by decide)
theorem QyC (c:UInt32):(c &&& Qy3 255).toNat=c.toNat % 256:=by
 rw [UInt32.toNat_and,show (Qy3 255).toNat=2 ^ 8 - 1 from rfl,Nat.and_two_pow_sub_one_eq_mod]
theorem QwD (c:UInt32) (n:Nat):(Qsa c n).toNat=c.toNat / 2 ^ n:=by
 show (c.toNat >>> n) % 2 ^ 32=_;rw [Nat.shiftRight_eq_div_pow];exact Qy9 (Nat.lt_of_le_of_lt (Nat.div_le_self _ _) (by have:=c.toNat_lt;omega))
theorem Qeg (a:UInt32) (n:Nat) {k:Nat} (h:byA a.toNat k=a.toNat / 2 ^ n % 256):(((Qsa a n &&& Qy3 255).toNat:Nat):Int)=(byA a.toNat k:Int):=by
 rw [QyC,QwD,h]
def quad (a:Nat):List (List UInt8):=[decDigits (byA a 0),decDigits (byA a 1),decDigits (byA a 2),decDigits (byA a 3)]
theorem Qpe (a:Nat):∀ i,i < 4 → ∀ j,j < 1→(fun u (v:Nat)=>EV.s (decDigits (byA a u))) i j=(fun u v=>EV.s ((quad a).getD u [])) i j:=by
 intro i hi j hj
 match i,hi with
 | 0,_=>rfl
 | 1,_=>rfl
 | 2,_=>rfl
 | 3,_=>rfl
theorem QlD {a:UInt32}:Cf Tryz.prog 214 [] [.u32 a] [] (.s (X3 a.toNat)):=by
 have hjl:=Qaf a.toNat;have hJ:=QeI (L:=quad a.toNat) (sep:=[46]) (show 4≤1100000 by decide) (show (X3 a.toNat).length≤1100000 by omega);refine Qs {nl:=[(3,9,1)]} Tryz.func214 Tryz.ntmps214 ?_;refine ⟨Nat,fun k=>⟨[(0,.u32 a),(3,.osl 1003 k),(4,.i (24 - 8 * (k:Int)))],[(1003,.rz k 1 (fun u v=>.s (decDigits (byA a.toNat u))) 9 0)]⟩,fun k=>k≤4,fun k=>4 - k,0,by omega,?_,fun k hx1=>?_⟩
 ·skip
  repeat refine o32 ?_
  trivial
 refine ⟨fun h1=>?_,fun h1=>?_⟩
 ·skip
  have c1:=h1
  (simp only [bsX] at c1)
  have hk:k < 4:=by omega
  rcases (by omega:k=0∨k=1∨k=2∨k=3) with rfl | rfl | rfl | rfl
  ·skip
   repeat refine o3 ?_
   refine clX (Ym (u:=byA a.toNat 0) (Qeg a (24 - 8 * 0) (by rfl)) (by have:=QaL a.toNat 0;omega)) ?_
   repeat refine o34 ?_
   refine ⟨0+1,(by assumption),(by (exact Qy5 rfl)),?_⟩
   repeat refine o35 ?_
   trivial
  ·skip
   repeat refine o3 ?_
   refine clX (Ym (u:=byA a.toNat 1) (Qeg a (24 - 8 * 1) (by rfl)) (by have:=QaL a.toNat 1;omega)) ?_
   repeat refine o34 ?_
   refine ⟨1+1,(by assumption),(by (exact Qy5 rfl)),?_⟩
   repeat refine o35 ?_
   trivial
  ·skip
   repeat refine o3 ?_
   refine clX (Ym (u:=byA a.toNat 2) (Qeg a (24 - 8 * 2) (by rfl)) (by have:=QaL a.toNat 2;omega)) ?_
   repeat refine o34 ?_
   refine ⟨2+1,(by assumption),(by (exact Qy5 rfl)),?_⟩
   repeat refine o35 ?_
   trivial
  ·skip
   repeat refine o3 ?_
   refine clX (Ym (u:=byA a.toNat 3) (Qeg a (24 - 8 * 3) (by simp [byA])) (by have:=QaL a.toNat 3;omega)) ?_
   repeat refine o34 ?_
   refine ⟨3+1,(by assumption),(by (exact Qy5 rfl)),?_⟩
   repeat refine o35 ?_
   trivial
 ·skip
  have c1:=h1
  (simp only [bsX] at c1)
  have hk:k=4:=by have:k≤4:=hx1;omega
  subst hk;refine clX hJ ?_
  repeat (refine Ob.mk ?_ ?_;focus (first | (exact Qpe _) | (exact Qzd _)))
  trivial
theorem Qnr {p:List Bool} (hp:p.length≤32):Cf Tryz.prog 199 [] [XJ p] [] (.tup [.s (Qcf p),.i 0]):=by
 have hA:=QlD (a:=adr p);rw [ZM] at hA;have hI:=Ym (u:=p.length) (n:=(p.length:Int)) rfl (by omega);have hT:=Qaf (We p);have hD:=Qa6 (u:=p.length) (by omega);refine QV {} Tryz.func199 Tryz.ntmps199 ?_;refine clX (Jo hp) ?_
 repeat refine o0 ?_
 refine ⟨fun h1=>?_,fun h1=>?_⟩
 ·skip
  (simp only [Int.reduceToNat,UInt8.reduceOfNat] at h1)
  exact absurd (show false=true from h1) (by decide)
 ·skip
  (simp only [Int.reduceToNat,UInt8.reduceOfNat] at h1)
  refine ⟨[0,1,3,7,0,16,55,127,255,511],by kernel_rfl,?_⟩;refine clX hA ?_
  repeat (refine Ob.mk ?_ ?_;focus (first | (simp only [Qy4,Qy6,Qy8];omega) | (exact Qzd _)))
  refine clX hI ?_
  repeat (refine Ob.mk ?_ ?_;focus (first | (show X3 (We p)++[47]++decDigits p.length=X3 (We p)++47::decDigits p.length;rw [Qzo];rfl) | (simp only [Qy4,Qy6,Qy8];omega) | (exact Qzd _)))
  trivial
theorem Qns {a:UInt32} {n:Nat} (hp:n≤65536):Cf Tryz.prog 74 [] [.agg [.u32 a,.i (n:Int)]] [] (.s (X3 a.toNat++47::decDigits n)):=by
 have hjl:=Qaf a.toNat;have hJ:=QeI (L:=quad a.toNat) (sep:=[46]) (show 4≤1100000 by decide) (show (X3 a.toNat).length≤1100000 by omega);have hI:=Ym (u:=n) (n:=(n:Int)) rfl (by omega);have hD:=Qa6 (u:=n) (by omega);refine QV {nl:=[(3,9,1)]} Tryz.func74 Tryz.ntmps74 ?_;refine ⟨Nat,fun k=>⟨[(1,.own 1001 0),(3,.osl 1003 k),(4,.i (24 - 8 * (k:Int)))],[(1001,.box [.u32 a,.i (n:Int)] 36),(1003,.rz k 1 (fun u v=>.s (decDigits (byA a.toNat u))) 9 0)]⟩,fun k=>k≤4,fun k=>4 - k,0,by omega,?_,fun k hx1=>?_⟩
 ·skip
  repeat refine o32 ?_
  trivial
 refine ⟨fun h1=>?_,fun h1=>?_⟩
 ·skip
  have c1:=h1
  (simp only [bsX] at c1)
  have hk:k < 4:=by omega
  rcases (by omega:k=0∨k=1∨k=2∨k=3) with rfl | rfl | rfl | rfl
  ·skip
   repeat refine o3 ?_
   refine clX (Ym (u:=byA a.toNat 0) (Qeg a (24 - 8 * 0) (by rfl)) (by have:=QaL a.toNat 0;omega)) ?_
   repeat refine o34 ?_
   refine ⟨0+1,(by assumption),(by (exact Qy5 rfl)),?_⟩
   repeat refine o35 ?_
   trivial
  ·skip
   repeat refine o3 ?_
   refine clX (Ym (u:=byA a.toNat 1) (Qeg a (24 - 8 * 1) (by rfl)) (by have:=QaL a.toNat 1;omega)) ?_
   repeat refine o34 ?_
   refine ⟨1+1,(by assumption),(by (exact Qy5 rfl)),?_⟩
   repeat refine o35 ?_
   trivial
  ·skip
   repeat refine o3 ?_
   refine clX (Ym (u:=byA a.toNat 2) (Qeg a (24 - 8 * 2) (by rfl)) (by have:=QaL a.toNat 2;omega)) ?_
   repeat refine o34 ?_
   refine ⟨2+1,(by assumption),(by (exact Qy5 rfl)),?_⟩
   repeat refine o35 ?_
   trivial
  ·skip
   repeat refine o3 ?_
   refine clX (Ym (u:=byA a.toNat 3) (Qeg a (24 - 8 * 3) (by simp [byA])) (by have:=QaL a.toNat 3;omega)) ?_
   repeat refine o34 ?_
   refine ⟨3+1,(by assumption),(by (exact Qy5 rfl)),?_⟩
   repeat refine o35 ?_
   trivial
 ·skip
  have c1:=h1
  (simp only [bsX] at c1)
  have hk:k=4:=by have:k≤4:=hx1;omega
  subst hk;refine ⟨[0,1,3,0,8,27,63,127],by kernel_rfl,?_⟩;refine clX hJ ?_
  repeat (refine Ob.mk ?_ ?_;focus (first | (exact Qpe _) | (show (X3 a.toNat).length+1≤_;omega) | (exact Qzd _)))
  refine clX hI ?_
  repeat (refine Ob.mk ?_ ?_;focus (first | (show X3 a.toNat++[47]++decDigits n=X3 a.toNat++47::decDigits n;rw [Qzo];rfl) | (show (X3 a.toNat++[47]).length+(decDigits n).length≤_;simp only [Qy4,Qy6,Qy8];omega) | (exact Qzd _)))
  trivial
theorem YC {p:List Bool} (hp:p.length≤32):Cf Tryz.prog 74 [] [XJ p] [] (.s (Qcf p)):=by
 have:=Qns (a:=adr p) (n:=p.length) (by omega);rw [ZM] at this;exact this
theorem Qgq {a:UInt32} {n:Int}:Cf Tryz.prog 58 [] [.agg [.u32 a,.i n]] [] (.i (ZV a.toNat n)) :=
 Cf.ofV (by kernel_rfl) (fun _ _ _=>ra_i) fun w Pub φ vs hp hR=>by
  obtain ⟨u,rfl,h1⟩:=ra1 hR;rw [Qxp (k:=(a,n)) h1];exact Qlf _ _ _ w a.toNat_lt (Lib.hid rfl)
theorem QwE {s:List UInt8} (h:(((47:UInt8) ∉ s∨(Yb (bef 47 s)).2≠0)∨nbE (aft 47 s) 32≠0)):Qbx s=([],3):=by
 unfold Qbx;refine if_neg fun ⟨k1,k2,k3,k4⟩=>?_;have n1:nbE (aft 47 s) 32=0:=by unfold nbE;rw [if_pos k3]
 rcases h with (h | h) | h
 ·exact h k1
 ·exact h k2
 ·exact h n1
theorem QtN {s:List UInt8} (h:¬ (((47:UInt8) ∉ s∨(Yb (bef 47 s)).2≠0)∨nbE (aft 47 s) 32≠0)):(47:UInt8)∈s∧(Yb (bef 47 s)).2=0∧smE (aft 47 s) 32=true∧nbN (aft 47 s) 32=(Q5 0 (aft 47 s):Int)∧Q5 0 (aft 47 s)≤32∧(Yb (bef 47 s)).1 < 4294967296:=by
 rw [not_or,not_or] at h;obtain ⟨⟨h1,h2⟩,h3⟩:=h
 have n3:smE (aft 47 s) 32=true:=by
  cases q:smE (aft 47 s) 32 with
  | true=>rfl
  | false=>exact absurd (by unfold nbE at h3;rw [q] at h3;exact absurd (by decide) h3) h3
 have n2:nbN (aft 47 s) 32=smN (aft 47 s):=by unfold nbN;rw [if_pos n3]
 obtain ⟨k1,k2,k3⟩:=QbA n3;have h2':=Decidable.not_not.1 h2;exact ⟨Decidable.not_not.1 h1,h2',n3,by rw [n2,k2],by omega,(Qg9 h2').2⟩
theorem QwF {a n:Nat} (ha:a < 4294967296) (hn:n≤32) (h:ZV (Qy3 a).toNat (n:Int)≠0):V2 a n≠a:=fun e=>h (Xv.2 ⟨by omega,by omega,by
 have:(Qy3 a).toNat=a:=Qy9 (by omega)
 rw [this,Qzn,← e];exact Qcd _ _⟩)
theorem QwG {a n:Nat} (ha:a < 4294967296) (hn:n≤32) (h:ZV (Qy3 a).toNat (n:Int)=0):V2 a n=a∧EV.agg [.u32 (Qy3 a),.i (n:Int)]=XJ (X4 a n):=by
 have v:=Xv.1 h;have e:(Qy3 a).toNat=a:=Qy9 (by omega);have m:=v.2.2;rw [e,Qzn] at m;refine ⟨Qag m,?_⟩;have k:=QrJ (Qy3 a) hn v;rw [e] at k;show _=EV.agg [.u32 (adr (X4 a n)),.i ((X4 a n).length:Int)];rw [k,Y5]
theorem QlE {s:List UInt8} (hl:s.length≤1100000):Cf Tryz.prog 163 [] [.s s] [] (.tup [XJ (Qbx s).1,.i (Qbx s).2]):=by
 have hb:=Qe1 47 s
 have ha:(aft 47 s).length≤s.length:=by
  by_cases h:(47:UInt8)∈s
  ·have:=congrArg Qzw (Vq h);rw [Qy4,Qy6] at this;omega
  ·rw [Qev h];simp
 refine Qs {} Tryz.func163 Tryz.ntmps163 ?_;refine clX (Qjb (l:=s) (c:=47) hl) ?_
 repeat refine o0 ?_
 refine clX (Qef (s:=bef 47 s) (by omega)) ?_
 repeat refine o0 ?_
 refine clX (Qbh (s:=aft 47 s) (most:=32) (by omega)) ?_
 repeat refine o29 ?_
 refine ⟨fun h1=>?_,fun h1=>?_⟩
 ·skip
  have hR:=QwE (s:=s) (by simpa using h1)
  repeat refine o46 ?_
  trivial
 ·skip
  obtain ⟨y1,y2,y3,y4,y5,y6⟩:=QtN (s:=s) (by simpa using h1);have hC:=Qgq (a:=Qy3 (Yb (bef 47 s)).1) (n:=nbN (aft 47 s) 32);refine clX hC ?_
  repeat refine o0 ?_
  refine ⟨fun h2=>?_,fun h2=>?_⟩
  ·skip
   have hz:ZV (Qy3 (Yb (bef 47 s)).1).toNat ((Q5 0 (aft 47 s):Nat):Int)≠0:=by rw [← y4];simpa using h2
   have hR:Qbx s=([],3):=by unfold Qbx;exact if_neg fun q=>QwF y6 y5 hz q.2.2.2
   repeat refine o46 ?_
   trivial
  ·skip
   have hz:ZV (Qy3 (Yb (bef 47 s)).1).toNat ((Q5 0 (aft 47 s):Nat):Int)=0:=by rw [← y4];simpa using h2
   obtain ⟨hcut,hnet⟩:=QwG y6 y5 hz;have hR:Qbx s=(X4 (Yb (bef 47 s)).1 (Q5 0 (aft 47 s)),0):=by unfold Qbx;exact if_pos ⟨y1,y2,y3,hcut⟩
   have hn1:adr (Qbx s).1=Qy3 (Yb (bef 47 s)).1:=by rw [hR];have:=EV.agg.inj hnet;simp at this;exact this.1.symm
   have hn2:(((Qbx s).1.length:Nat):Int)=nbN (aft 47 s) 32:=by rw [hR,y4,Y5]
   repeat (refine Ob.mk ?_ ?_;focus (first | (rw [hR];done) | (exact hn1.symm) | (exact hn2.symm)))
   trivial
end
end Go.Proofs.YtcebndkiagbddaaGreatDoor
