/- A part of the proof: contracts of functions and what they stand on. Written shorter and merged by a program (pack.py). -/
import Derived.Shelf.Strings.SplitCore
import Derived.Shelf.Strings.OnBuilder
import Derived.Lib.ItoaNum
import Derived.Lib.AppendIntMem
import Derived.Lib.LaidTab
import Derived.Test.YtcebndkiagbddaaGreatDoorRows
import Derived.Test.YtcebndkiagbddaaGreatDoorK19
set_option linter.unusedVariables false
set_option linter.unusedSimpArgs false
set_option maxRecDepth 100000
set_option maxHeartbeats 4000000
open List renaming getD_eq_getElem?_getD -> Qxo, getElem?_eq_getElem -> Qxp, length_take -> Qxq, prefix_iff_eq_take -> Qxr, length_append -> Qxs, length_cons -> Qxv, take_length -> Qxy, length_map -> Qxz, all_cons -> QxB, getElem?_map -> QxC, getElem?_eq_some_iff -> QxD, take_prefix -> QxE, all_append -> QxG, length_nil -> QxH, count_le_length -> QxI, mem_singleton -> QxJ
open Int renaming toNat_natCast -> Qxt
open Nat renaming zero_add -> Qxu, le_refl -> Qxw, testBit_lt_two_pow -> Qxx
open Array renaming getElem?_eq_some_iff -> QxA
open Bool renaming noConfusion -> QxF
open Option renaming bind_some -> QxK
namespace Go.Proofs.YtcebndkiagbddaaGreatDoor
section
def QN:List Bool->Nat
 | []=>0
 | c::p=>(bif c then 2147483648 else 0)+QN p / 2
theorem ZD:∀ p,QN p < 4294967296
 | []=>by decide
 | c::p=>by
  have:=ZD p;unfold QN;cases c <;> simp only [cond_true,cond_false] <;> omega
theorem Qvy {x j:Nat} (h:x < 4294967296) (hj:32<=j):x.testBit j=false:=Qxx (Nat.lt_of_lt_of_le h (Nat.pow_le_pow_right (n:=2) (i:=32) (by decide) hj))
theorem Y0:∀ (p:List Bool) (i:Nat),i < 32->(QN p).testBit (31 - i)=QB p i
 | [],i,_=>by unfold QN QB;simp
 | c::p,i,h=>by
  have hl:QN p / 2 < 2 ^ 31:=by have:=ZD p;omega
  cases i with
  | zero =>
   have e:(bif c then 2147483648 else 0)=(bif c then 2 ^ 31 else 0):=rfl;unfold QN
   cases c with
   | false=>simp only [cond_false,Qxu];rw [Qxx hl];rfl
   | true=>simp only [cond_true];rw [show (2147483648:Nat)=2 ^ 31 from rfl,Nat.testBit_two_pow_add_eq,Qxx hl];rfl
  | succ i =>
   have e:(QN p / 2).testBit (31 - (i+1))=QB p i:=by rw [Nat.testBit_div_two,show 31 - (i+1)+1=31 - i from by omega];exact Y0 p i (by omega)
   have e2:QB (c::p) (i+1)=QB p i:=by unfold QB;simp
   rw [e2,<- e];have e3:QN (c::p)=(bif c then 2147483648 else 0)+QN p / 2:=by rw [QN]
   rw [e3]
   cases c with
   | false=>simp only [cond_false,Qxu]
   | true=>simp only [cond_true];rw [show (2147483648:Nat)=2 ^ 31 from rfl,Nat.testBit_two_pow_add_gt (by omega)]
def YB (a k:Nat):List Bool:=(List.range k).map fun i=>a.testBit (31 - i)
theorem Yb (a k:Nat):(YB a k).length=k:=by unfold YB;simp
theorem Qn3 {a k i:Nat}:QB (YB a k) i=(decide (i < k) && a.testBit (31 - i)):=by
 unfold QB YB;rw [Qxo,QxC];by_cases h:i < k
 ·rw [List.getElem?_range h];simp [h]
 ·rw [List.getElem?_eq_none (by simp;omega)];simp [h]
theorem Qmw {a:Nat} (k:Nat) (h:a < 4294967296):Zl a k < 4294967296:=Nat.lt_of_le_of_lt (Qgy a k) h
theorem Qiw {a k i:Nat} (hk:k<=32) (h:i < 32):(Zl a k).testBit (31 - i)=(decide (i < k) && a.testBit (31 - i)):=by
 unfold Zl;rw [Nat.testBit_mul_two_pow,Nat.testBit_div_two_pow];by_cases h':i < k
 ·rw [show 31 - i - (32 - k)+(32 - k)=31 - i from by omega,decide_eq_true (by omega:32 - k<=31 - i),decide_eq_true h']
 ·rw [decide_eq_false (by omega:¬ 32 - k<=31 - i),decide_eq_false h',Bool.false_and,Bool.false_and]
theorem Qfn {a b:Nat} (ha:a < 4294967296) (hb:b < 4294967296) (h:∀ i,i < 32->a.testBit (31 - i)=b.testBit (31 - i)):a=b:=by
 refine Nat.eq_of_testBit_eq fun j=>?_;by_cases hj:j < 32
 ·have:=h (31 - j) (by omega)
  rwa [show 31 - (31 - j)=j from by omega] at this
 ·rw [Qvy ha (by omega),Qvy hb (by omega)]
theorem QbD {a k:Nat} (ha:a < 4294967296) (hk:k<=32):QN (YB a k)=Zl a k:=by
 refine Qfn (ZD _) (Qmw k ha) fun i hi=>?_;rw [Y0 _ _ hi,Qn3,Qiw hk hi]
theorem QkE {p:List Bool} {k i:Nat}:QB (p.take k) i=(decide (i < k) && QB p i):=by
 unfold QB;rw [Qxo,Qxo,List.getElem?_take];by_cases h:i < k
 ·simp [h]
 ·simp [h]
theorem ZZ (p:List Bool) {k:Nat} (hk:k<=32):Zl (QN p) k=QN (p.take k):=by
 refine Qfn (Qmw k (ZD p)) (ZD _) fun i hi=>?_;rw [Qiw hk hi,Y0 _ _ hi,Y0 _ _ hi,QkE]
theorem V4 {p q:List Bool} (hl:p.length=q.length) (h:p.length<=32) (e:QN p=QN q):p=q:=by
 refine List.ext_getElem hl fun i h1 h2=>?_;have a:=Y0 p i (by omega);have b:=Y0 q i (by omega);rw [e,b] at a;unfold QB at a;rw [Qxo,Qxo,Qxp h1,Qxp h2] at a;exact a.symm
abbrev adr (p:List Bool):UInt32:=UInt32.ofNat (QN p)
theorem QW (p:List Bool):(adr p).toNat=QN p:=by
 show QN p % 2 ^ 32=QN p;exact Nat.mod_eq_of_lt (by have:=ZD p;omega)
theorem QgA {p q:List Bool} (hl:p.length=q.length) (h:p.length<=32) (e:adr p=adr q):p=q :=
 V4 hl h (by rw [<- QW,<- QW,e])
theorem QqB (c:UInt32) {k:Nat} (hk:k<=32) (hv:Zm c.toNat (k:Int)):adr (YB c.toNat k)=c:=by
 apply UInt32.toNat_inj.1;rw [QW,QbD c.toNat_lt hk];exact V2 (by have:=hv.2.2;rwa [Qxt] at this)
theorem YM {p:List Bool} (h:p.length<=32):Zm (adr p).toNat (p.length:Int):=by
 rw [QW];refine ⟨by omega,by omega,?_⟩;rw [Qxt];have:=ZZ p h;rw [Qxy] at this;rw [<- this];exact QaJ _ _
theorem QkF {p:List Bool} (h:p.length<=32):WO (adr p).toNat (p.length:Int)=0:=WL.2 (YM h)
theorem Qix {p q:List Bool} (hl:p.length<=q.length):q.take p.length=p↔p <+: q:=by
 constructor
 ·intro h;rw [<- h];exact QxE _ _
 ·intro h;exact (Qxr.1 h).symm
theorem QkG {p q:List Bool} (hp:p.length<=32) (hq:q.length<=32):YY (adr p).toNat (p.length:Int) (adr q).toNat (q.length:Int)=decide (p <+: q):=by
 rw [Bool.eq_iff_iff,QkD,decide_eq_true_iff];rw [Qxt,QW q,ZZ q hp];constructor
 ·rintro ⟨_,h,_,e⟩;have hl:p.length<=q.length:=by omega
  rw [QW] at e;exact (Qix hl).1 (V4 (by rw [Qxq];omega) (by rw [Qxq];omega) e)
 ·intro h;have hl:=h.length_le;refine ⟨by rw [<- QW q];exact YM hq,by omega,YM hp,?_⟩;rw [(Qix hl).2 h,QW]
theorem QqC {f p q:List Bool}:∀ {k:Nat},k<=p.length->k<=q.length->(p.take k=q.take k↔k<=(Wr p q).length):=by
 intro k h1 h2;constructor
 ·intro e;have a:p.take k <+: p:=QxE _ _;have b:p.take k <+: q:=by rw [e];exact QxE _ _
  have:=(QaM a b).length_le;rw [Qxq] at this;omega
 ·intro h;have a:=Qxr.1 (J1 p q);have b:=Qxr.1 (QbC p q)
  have c:(Wr p q).take k=p.take k:=by
                        conv=>lhs;rw [a]
                        rw [List.take_take,Nat.min_eq_left h]
  have d:(Wr p q).take k=q.take k:=by
                        conv=>lhs;rw [b]
                        rw [List.take_take,Nat.min_eq_left h]
  rw [<- c,d]
theorem Qn4 {p q:List Bool} (hp:p.length<=32) (hq:q.length<=32):XU (adr p).toNat p.length (adr q).toNat q.length=(Wr p q).length:=by
 rw [QW,QW]
 have key:∀ k:Nat,k<=p.length->k<=q.length->(k<=XU (QN p) p.length (QN q) q.length↔k<=(Wr p q).length):=fun k h1 h2=>by
  have a:=Qn2 (QN p) (QN q) k (ZD p) (ZD q) (by omega);have b:=Qfl (QN p) p.length (QN q) q.length (ZD p) (ZD q);rw [<- QqC (f:=[]) h1 h2];constructor
  ·intro h;have:=a.2 (by omega);rw [ZZ p (by omega),ZZ q (by omega)] at this;exact V4 (by rw [Qxq,Qxq];omega) (by rw [Qxq];omega) this
  ·intro e;have:=a.1 (by rw [ZZ p (by omega),ZZ q (by omega),e]);omega
 have h:=Qiu (QN p) p.length (QN q) q.length;have l1:=(J1 p q).length_le;have l2:=(QbC p q).length_le;have c1:=(key _ h.1 h.2).1 (Qxw _);have c2:=(key _ l1 l2).2 (Qxw _);omega
theorem Qn5 {p q:List Bool} (hp:p.length<=32):Zl (adr p).toNat (Wr p q).length=QN (Wr p q):=by
 have:=(J1 p q).length_le;rw [QW,ZZ p (by omega),(Qxr.1 (J1 p q)).symm]
theorem QqD {q:List Bool} {k:Nat} (h:k < 32):(QN q >>> (31 - k)) % 2=(QB q k).toNat:=by
 have:=Y0 q k h;rw [<- this,Nat.toNat_testBit,Nat.shiftRight_eq_div_pow]
end
section
open Go.RowKit Go.Lib
theorem ra3 {w:World} {Pub:Nat->Nat->Prop} {φ:Qi} {x y z:EV} {vs:List Value} (h:RAs w Pub φ (avL [x,y,z]) vs):∃ u v t,vs=[u,v,t]/\RA w Pub φ x.av u/\RA w Pub φ y.av v/\RA w Pub φ z.av t:=by
 unfold avL RAs at h;obtain ⟨u,us,rfl,h1,h2⟩:=h;obtain ⟨v,t,rfl,h3,h4⟩:=ra2 h2;exact ⟨u,v,t,rfl,h1,h3,h4⟩
theorem ra4 {w:World} {Pub:Nat->Nat->Prop} {φ:Qi} {x y z q:EV} {vs:List Value} (h:RAs w Pub φ (avL [x,y,z,q]) vs):∃ u v t s,vs=[u,v,t,s]/\RA w Pub φ x.av u/\RA w Pub φ y.av v/\RA w Pub φ z.av t/\RA w Pub φ q.av s:=by
 unfold avL RAs at h;obtain ⟨u,us,rfl,h1,h2⟩:=h;obtain ⟨v,t,s,rfl,h3,h4⟩:=ra3 h2;exact ⟨u,v,t,s,rfl,h1,h3,h4⟩
theorem QwC {w:World} {Pub:Nat->Nat->Prop} {φ:Qi} {b off n c sz:Nat} {f:Nat->Nat->EV} (hn:n<=c) (hc:c<=maxLen) (hsz:0 < sz)
  (h:∀ i,i < n -> ∀ j,j < sz->∃ u,w.cell? ⟨b,off+(i * sz+j),none⟩=some u/\Pub b (off+(i * sz+j))/\u.oneCell'=true/\RP w Pub (f i j).pv u):RA w Pub φ (EV.lz n sz f).av (.slice (some ⟨b,off,none⟩) n c):=by
 unfold EV.av EV.pv RA RP;refine ⟨_,c,rfl,hn,hc,(fun h=>by cases h),.inr ⟨b,off,rfl,Qbb fun k q hq=>?_⟩⟩;have hk:k < n * sz:=by have:=(QxD.1 hq).1;rw [Wp] at this;exact this
 have hb:k % sz < sz:=Nat.mod_lt _ hsz;have ha:k / sz < n:=(Nat.div_lt_iff_lt_mul hsz).2 hk;have e:k / sz * sz+k % sz=k:=by rw [Nat.mul_comm];exact Nat.div_add_mod k sz
 have g:=Ys n sz f ha hb;rw [e,hq] at g;cases g;have:=h _ ha _ hb;rw [e] at this;exact this
theorem Cf.ofStrs {P:Program} {f:FuncId} {ags:List EV} {L:List (List UInt8)} {T:TypeId} (hc:QX P f=true) (hL:L.length<=maxLen)
  (h:∀ (w:World) (Pub:Nat->Nat->Prop) (φ:Qi) (vs:List Value),(∀ b i,Pub b i->b < w.heap.size)->RAs w Pub φ (avL ags) vs ->
   Calls P f vs.toArray w fun e w'=>e=.returned (.slice (some ⟨w.heap.size,0,none⟩) L.length L.length)/\w'=w.alloc (.cells (L.map fun s=>Value.string ⟨s.toArray⟩).toArray T)):Cf P f [] ags [] (QdX L):=by
 refine ⟨hc,fun E φ Pub w vs e1 e2 I hR=>(h w Pub φ vs I.publ hR).mono ?_⟩;rintro e w' ⟨rfl,hw'⟩;have hb:Below w.heap.size w w':=by rw [hw'];exact VI _ _
 have hnew:w'.heap[w.heap.size]? = some (.cells (L.map fun s=>Value.string ⟨s.toArray⟩).toArray T):=by rw [hw'];exact heap_alloc_new w _
 have hlt:w.heap.size < w'.heap.size:=(QxA.1 hnew).1;refine ⟨_,φ,fun b i=>Pub b i\/(b=w.heap.size/\i < L.length),rfl,?_,?_⟩
 ·refine I.next hb.os hb.tape hb.output hb.size (fun b h _=>hb.block b (by rw [e1] at h;exact h)) (fun b i hp=>⟨.inl hp,?_⟩) ?_ ?_ (fun r h=>QxF (show false=true from h)) (fun r _ _ h=>QxF (show false=true from h)) (fun r _ _ _ _ h=>QxF (show false=true from h)) (fun _ h=>by cases h)
  ·simp only [World.cell?,hb.block b (I.publ b i hp)]
  ·rintro b i (hp | ⟨rfl,hi⟩)
   ·exact .inl hp
   ·rw [e1];exact .inr (.inl (Qxw _))
  ·rintro b i (hp | ⟨rfl,hi⟩)
   ·exact Nat.lt_of_lt_of_le (I.publ b i hp) hb.size
   ·exact hlt
 ·refine QwC (Qxw _) hL (by decide) fun i hi j hj=>?_;obtain rfl:j=0:=by omega
  refine ⟨.string ⟨(L.getD i []).toArray⟩,?_,.inr ⟨rfl,by omega⟩,rfl,by unfold EV.pv RP;rfl⟩;rw [Qxu,Nat.mul_one,Nat.add_zero];simp only [World.cell?,hnew];rw [Qxo,Qxp hi];simp [hi]
theorem QwD {w:World} {Pub:Nat->Nat->Prop} {φ:Qi} {L:List (List UInt8)} {v:Value} (h:RA w Pub φ (QdX L).av v) :
  ∃ a c,v=.slice a L.length c/\L.length<=c/\c<=maxLen/\(L=[]\/∃ b o,a=some ⟨b,o,none⟩ /\ ∀ (i:Nat) u,L[i]? = some u->w.cell? ⟨b,o+i,none⟩=some (.string ⟨u.toArray⟩)/\Pub b (o+i)):=by
 unfold EV.av EV.pv RA RP at h;obtain ⟨a,c,rfl,h1,h2,_,h4⟩:=h;refine ⟨a,c,rfl,h1,h2,?_⟩;rcases h4 with h4 | ⟨b,o,rfl,h4⟩
 ·exact .inl (List.eq_nil_of_length_eq_zero h4)
 ·refine .inr ⟨b,o,rfl,fun i u hu=>?_⟩;have hi:=(QxD.1 hu).1;have g:=Ys L.length 1 (fun i j=>EV.s (L.getD i [])) hi (j:=0) (by decide);rw [Nat.mul_one,Nat.add_zero] at g;obtain ⟨x,k1,k2,_,k4⟩:=Jd h4 g;have e:L.getD i []=u:=by rw [Qxo,hu];rfl
  rw [e] at k4;unfold EV.pv RP at k4;rw [k1,k4];exact ⟨rfl,k2⟩
theorem Qec (L:List (List UInt8)):(L.map fun s=>(ByteArray.mk s.toArray)).map (·.data.toList)=L:=by
 rw [List.map_map];exact (List.map_congr_left (g:=id) fun s _=>rfl).trans (List.map_id L)
theorem Qed {l:List UInt8} {c:UInt8}:Cf Tryz.prog 203 [] [.s l,.s [c]] [] (.i (Lib.indexByte l c)) :=
 Cf.of (by kernel_rfl) fun w Pub φ vs hp hR=>by
  obtain ⟨u,v,rfl,h1,h2⟩:=ra2 hR;have e1:=Ya h1;have e2:=Ya h2;subst e1 e2;exact (Tryz.stringslite_Index_one ⟨⟨l⟩⟩ c w).mono fun e w' k=>⟨k.1,by rw [k.2];exact Below.refl _ _⟩
theorem QiW {l:List UInt8} {c:UInt8} (hl:l.length<=1100000):Cf Tryz.prog 192 [] [.s l,.s [c],.i 0,.i (-1)] [] (QdX (spl c l)) :=
 Cf.ofStrs (T:=9) (by kernel_rfl) (by rw [QcB];have:=QxI (a:=c) (l:=l);unfold maxLen;omega) fun w Pub φ vs hp hR=>by
  obtain ⟨u0,u1,u2,u3,rfl,h0,h1,h2,h3⟩:=ra4 hR;have e0:=Ya h0;have e1:=Ya h1;have e2:=Ya h2;have e3:=Ya h3;subst e0 e1 e2 e3;have hc:Lib.countB ⟨⟨l⟩⟩ ⟨⟨[c]⟩⟩=l.count c:=Lib.count_one c l;have hle:=QxI (a:=c) (l:=l);have hsz:(ByteArray.mk (Array.mk l)).size=l.length:=rfl;have all:=Lib.splitB_all ⟨⟨[c]⟩⟩ (Qxw 1) 0 (l.count c) ⟨⟨l⟩⟩ hc;have e:=QkQ c ⟨⟨l⟩⟩;have e':(Lib.splitB ⟨⟨[c]⟩⟩ 0 (l.count c) ⟨⟨l⟩⟩).map (·.data.toList)=spl c l:=by rw [<- hc];exact e
  refine (Any.strings_genSplit_core Tryz.lays221 (by kernel_rfl) ⟨⟨l⟩⟩ ⟨⟨[c]⟩⟩ 0 (-1) (l.count c+1) w (by rw [hsz];omega) (Qxw 1) (Nat.zero_le _)
   (fun x cs hx=>(Tryz.strings_Index_one x c _).mono fun e w' k=>⟨by rw [k.1];show _=Ending.returned (Value.int .i64 (Lib.index x.data.toList [c]));rw [Lib.index_one],k.2⟩)
   ((Tryz.strings_Count_one ⟨⟨l⟩⟩ c w).mono fun e w' k=>⟨by rw [k.1,hc];rfl,k.2⟩) (by decide) (by decide) (by rw [hc,if_pos (by decide),hsz];omega)).mono fun e w' k=>?_
  rw [Nat.add_sub_cancel] at k;obtain ⟨k1,k2⟩:=k;rw [k1,k2,all,QcB];refine ⟨rfl,?_⟩;rw [<- all,Lib.cellsOf_full,<- e',List.map_map];rfl
theorem QiX {l:List UInt8} {c:UInt8} (hl:l.length<=1100000):Cf Tryz.prog 160 [] [.s l,.s [c]] [] (QdX (spl c l)):=by
 refine Qr {} Tryz.func160 Tryz.ntmps160 ?_;refine clX (QiW (c:=c) hl) ?_
 repeat refine o10 ?_
 trivial
theorem QgU {L:List (List UInt8)} {sep:List UInt8} (hL:L.length<=1100000) (hN:(Lib.join L sep).length<=1100000):Cf Tryz.prog 76 [] [QdX L,.s sep] [] (.s (Lib.join L sep)) :=
 Cf.of (by kernel_rfl) fun w Pub φ vs hp hR=>by
  obtain ⟨u,v,rfl,h1,h2⟩:=ra2 hR;have e2:=Ya h2;subst e2;obtain ⟨a,c,rfl,hn,hm,h⟩:=QwD h1;rcases h with rfl | ⟨b,o,rfl,h⟩
  ·exact (Tryz.strings_Join_none a c ⟨⟨sep⟩⟩ w).mono fun e w' k=>⟨k.1,by rw [k.2];exact Below.refl _ _⟩
  ·by_cases h0:L=[]
   ·subst h0;exact (Tryz.strings_Join_none _ c ⟨⟨sep⟩⟩ w).mono fun e w' k=>⟨k.1,by rw [k.2];exact Below.refl _ _⟩
   ·have hb:b < w.heap.size:=by
     cases L with
     | nil=>exact absurd rfl h0
     | cons x xs=>exact hp b _ (h 0 x rfl).2
    have k:=Tryz.strings_Join b o c (L.map fun s=>(ByteArray.mk s.toArray)) ⟨⟨sep⟩⟩ w (fun j x hx=>by
     rw [QxC,Option.map_eq_some_iff] at hx;obtain ⟨u,hu,rfl⟩:=hx
     exact (h j u hu).1) hb (by rw [Qxz];omega) (by rw [Qxz];exact hn) (by rw [Qec];show (Lib.join L sep).length<=_;omega)
    rw [Qec,Qxz] at k;exact k
end
section
open Go.RowKit
theorem Cf.ofV {P:Program} {f:FuncId} {ags:List EV} {res:EV} {u:Value} (hc:QX P f=true) (hr:∀ (w:World) (Pub:Nat->Nat->Prop) (φ:Qi),RA w Pub φ res.av u)
  (h:∀ (w:World) (Pub:Nat->Nat->Prop) (φ:Qi) (vs:List Value),(∀ b i,Pub b i->b < w.heap.size)->RAs w Pub φ (avL ags) vs->Calls P f vs.toArray w fun e w'=>e=.returned u/\Below w.heap.size w w'):Cf P f [] ags [] res:=by
 refine ⟨hc,fun E φ Pub w vs e1 e2 I hR=>(h w Pub φ vs I.publ hR).mono ?_⟩;rintro e w' ⟨rfl,hb⟩;exact ⟨u,φ,Pub,rfl,I.below e1 hb,hr _ _ _⟩
abbrev We (p:List Bool):EV:=.agg [.u32 (adr p),.i (p.length:Int)]
section
variable {w:World} {Pub:Nat->Nat->Prop} {φ:Qi}
theorem QdV {p:List Bool} {u:Value} (h:RA w Pub φ (We p).av u):u=Y5 (adr p).toNat (p.length:Int) :=
 Qvv (k:=(adr p,(p.length:Int))) h
theorem Qmx (p:List Bool):RA w Pub φ (We p).av (Y5 (adr p).toNat (p.length:Int)) :=
 nmA_V (w:=w) (Pub:=Pub) (φ:=φ) (adr p,(p.length:Int))
theorem ra_i {x:Int}:RA w Pub φ (EV.i x).av (.int .i64 x):=by unfold EV.av RA RP;rfl
theorem ra_b {x:Bool}:RA w Pub φ (EV.b x).av (.bool x):=by unfold EV.av RA RP;rfl
theorem Qua {x y:EV} {u v:Value} (h1:RA w Pub φ x.av u) (h2:RA w Pub φ y.av v):RA w Pub φ (EV.tup [x,y]).av (.tuple #[u,v]):=by
 unfold EV.av RA;refine ⟨[u,v],rfl,?_⟩;simp only [avL];unfold RAs;refine ⟨_,_,rfl,h1,?_⟩;unfold RAs;refine ⟨_,_,rfl,h2,?_⟩;unfold RAs;rfl
end
theorem Wh {p:List Bool} (h:p.length<=32):Cf Tryz.prog 58 [] [We p] [] (.i 0) :=
 Cf.ofV (by kernel_rfl) (fun _ _ _=>ra_i) fun w Pub φ vs hp hR=>by
  obtain ⟨u,rfl,h1⟩:=ra1 hR;rw [QdV h1];exact ZY _ _ 0 w (adr p).toNat_lt (Lib.hid (QkF h))
theorem WB {p q:List Bool} (h:p.length<=32) (hq:q.length<=32):Cf Tryz.prog 60 [] [We p,We q] [] (.b (decide (p <+: q))) :=
 Cf.ofV (by kernel_rfl) (fun _ _ _=>ra_b) fun w Pub φ vs hp hR=>by
  obtain ⟨u,v,rfl,h1,h2⟩:=ra2 hR;rw [QdV h1,QdV h2];exact Qqy _ _ _ _ _ w (adr p).toNat_lt (adr q).toNat_lt (Lib.hid (QkG h hq))
theorem Qiy {p q:List Bool} (h:p.length<=32) (hq:q.length<=32):Cf Tryz.prog 144 [] [We p,We q] [] (.tup [We (Wr p q),.i 0]) :=
 Cf.ofV (by kernel_rfl) (fun _ _ _=>Qua (Qmx _) ra_i) fun w Pub φ vs hp hR=>by
  obtain ⟨u,v,rfl,h1,h2⟩:=ra2 hR;rw [QdV h1,QdV h2];have k:=QqA (adr p).toNat (adr q).toNat p.length q.length w (adr p).toNat_lt (adr q).toNat_lt (YM h) (YM hq);rw [Qn4 h hq,Qn5 h,<- QW (Wr p q)] at k;exact k
abbrev Qub (k a b:Int):List Bool:=YB (Vv k a b) (V3 k a b)
theorem QaP {k a b:Int}:(Qub k a b).length<=32:=by rw [Yb];exact Qit _ _ _
theorem Qmy {k a b:Int} {s:List UInt8} (h1:Vu k) (h2:Vu a) (h3:Vu b):Cf Tryz.prog 23 [] [.agg [.i k,.i a,.i b,.s s]] [] (We (Qub k a b)) :=
 Cf.ofV (by kernel_rfl) (fun _ _ _=>Qmx _) fun w Pub φ vs hp hR=>by
  obtain ⟨u,rfl,h⟩:=ra1 hR
  have e:u=Qt7 k a b ⟨⟨s⟩⟩:=by
   unfold EV.av RA at h;obtain ⟨vs,e,h⟩:=h;simp only [avL] at h;unfold RAs at h;obtain ⟨u0,us,rfl,h0,h⟩:=h;unfold RAs at h;obtain ⟨u1,us,rfl,h1,h⟩:=h;unfold RAs at h;obtain ⟨u2,us,rfl,h2,h⟩:=h;unfold RAs at h;obtain ⟨u3,us,rfl,h3,h⟩:=h;unfold RAs at h;subst h;unfold EV.av RA RP at h0 h1 h2 h3;subst h0 h1 h2 h3;exact e
  have l:=Qit k a b;have v:=(QdU k a b).2.2;rw [Qxt] at v;rw [e,QW,QbD (Qqz k a b) l,Yb,V2 v];exact Qt9 k a b ⟨⟨s⟩⟩ w h1 h2 h3
end
section
open Go.Lib
def wrd:Nat->List UInt8
 | 1=>[112,114,105,118,97,116,101,95,107,101,121]
 | 2=>[108,105,115,116,101,110,95,112,111,114,116]
 | 3=>[114,101,112,108,97,99,101,95,112,101,101,114,115]
 | 4=>[112,117,98,108,105,99,95,107,101,121]
 | 5=>[114,101,109,111,118,101]
 | 6=>[112,114,101,115,104,97,114,101,100,95,107,101,121]
 | 7=>[101,110,100,112,111,105,110,116]
 | 8=>[112,101,114,115,105,115,116,101,110,116,95,107,101,101,112,97,108,105,118,101,95,105,110,116,101,114,118,97,108]
 | 9=>[114,101,112,108,97,99,101,95,97,108,108,111,119,101,100,95,105,112,115]
 | 10=>[97,108,108,111,119,101,100,95,105,112]
 | _=>[]
def W5:List UInt8:=List.replicate 64 48
def tru:List UInt8:=[116,114,117,101]
structure SetS where
 k:Int
 t:List UInt8
 n:Int
 p:List Bool
 deriving Inhabited,DecidableEq
def QbG (p:List Bool):List UInt8:=Y1 (QN p)++47::decDigits p.length
def Qd9 (s:List UInt8):List UInt8:=if (58:UInt8)∈s then bef 58 s else s
def Xw (s:List UInt8):List UInt8:=if (58:UInt8)∈s then aft 58 s else []
def Xx (s:List UInt8):Int:=if (58:UInt8)∈s/\(Zt (Qd9 s)).2=0/\smE (Xw s) 65535=true/\smN (Xw s)≠0 then 0 else 3
def isT (k:Int):Bool:=decide (k=1) || decide (k=4) || decide (k=6) || decide (k=7)
def isN (k:Int):Bool:=decide (k=2) || decide (k=8)
def Zc (s:SetS):Int :=
 if s.k < 1\/10 < s.k then 2
 else if (isT s.k=false/\s.t≠[])\/(isN s.k=false/\s.n≠0)\/(s.k≠10/\s.p≠[]) then 3
 else if s.k=1\/s.k=4 then ZX s.t
 else if s.k=6 then (if s.t=[] then 0 else if s.t=W5 then 3 else ZX s.t)
 else if s.k=7 then Xx s.t
 else if s.k=10 then 0
 else if isN s.k=true/\(s.n < 0\/65535 < s.n) then 4 else 0
def Zi (s:SetS):List UInt8 :=
 if isN s.k then itoa s.n else if s.k=3\/s.k=5\/s.k=9 then tru else if s.k=10 then QbG s.p else if s.k=6/\s.t=[] then W5 else s.t
def Zr (s:SetS):LnP×Int:=if Zc s=0 then ((wrd s.k.toNat,Zi s),0) else (([],[]),Zc s)
def QI (w:List UInt8):Nat->Int
 | 0=>0
 | i+1=>if i+1<=10/\wrd (i+1)=w then ((i+1:Nat):Int) else QI w i
def JE (s:List UInt8):List Bool×Int :=
 if (47:UInt8)∈s/\(Zt (bef 47 s)).2=0/\smE (aft 47 s) 32=true/\Zl (Zt (bef 47 s)).1 (QM 0 (aft 47 s))=(Zt (bef 47 s)).1 then (YB (Zt (bef 47 s)).1 (QM 0 (aft 47 s)),0) else ([],3)
def rd0 (l:LnP):SetS :=
 if QI l.1 10=2\/QI l.1 10=8 then ⟨QI l.1 10,[],if smE l.2 65535 then smN l.2 else 0,[]⟩
 else if QI l.1 10=3\/QI l.1 10=5\/QI l.1 10=9 then ⟨QI l.1 10,[],0,[]⟩
 else if QI l.1 10=10 then ⟨10,[],0,(JE l.2).1⟩
 else if QI l.1 10=6/\l.2=W5 then ⟨6,[],0,[]⟩ else ⟨QI l.1 10,l.2,0,[]⟩
def QS:SetS:=⟨0,[],0,[]⟩
def Wv (l:LnP):SetS×Int :=
 if QI l.1 10=0 then (QS,2) else if (Zr (rd0 l)).2=0/\(Zr (rd0 l)).1=l then (rd0 l,0) else (QS,3)
theorem Qod:∀ i:Fin 11,i.val≠0->QI (wrd i.val) 10=(i.val:Int)/\(wrd i.val).all okK=true/\1<=(wrd i.val).length/\(wrd i.val).length<=30:=by decide
theorem QkS {k:Int} (h1:1<=k) (h2:k<=10):QI (wrd k.toNat) 10=k/\(wrd k.toNat).all okK=true/\1<=(wrd k.toNat).length/\(wrd k.toNat).length<=30:=by
 have:=Qod ⟨k.toNat,by omega⟩ (by show k.toNat≠0;omega);have e:((k.toNat:Nat):Int)=k:=by omega
 rw [show ((⟨k.toNat,by omega⟩:Fin 11).val)=k.toNat from rfl,e] at this;exact this
theorem Qum:∀ c:UInt8,isD c=true->okV c=true:=by
 intro c h;unfold isD at h;unfold okV;rw [Bool.and_eq_true,decide_eq_true_eq,decide_eq_true_eq] at h;rw [decide_eq_true (by omega),decide_eq_true (by omega)];rfl
theorem QcF (u:Nat):(decDigits u).all okV=true:=by
 have:=QcE u;rw [List.all_eq_true] at this ⊢;exact fun c hc=>Qum c (this c hc)
theorem QiP (a:Nat):(Y1 a).all okV=true:=by
 unfold Y1;rw [Wl,Wl,Wl,join_one];simp only [QxG,QcF];decide
theorem QiQ:∀ n:Fin 16,okV (Qim n.val)=true:=by decide
theorem Qcb:∀ l:List UInt8,(Qcx l).all okV=true
 | []=>rfl
 | b::l=>by
  have h1:b.toNat / 16 < 16:=by have:=b.toNat_lt;omega
  have h2:b.toNat % 16 < 16:=by omega
  show (Qim (b.toNat / 16)::Qim (b.toNat % 16)::Qcx l).all okV=true;rw [QxB,QxB,Qcb l,QiQ ⟨_,h1⟩,QiQ ⟨_,h2⟩];rfl
theorem XZ {t:List UInt8} (h:ZX t=0):t.all okV=true/\t.length=64:=by
 unfold ZX at h;by_cases h1:(t.length:Int)=64
 ·rw [if_neg (fun k=>k h1)] at h;unfold QdQ at h;rw [if_neg (by omega),if_neg (by omega)] at h
  cases hu:Q3 t with
  | none=>rw [hu,if_pos rfl] at h;cases h
  | some b=>exact ⟨by rw [<- JI t b hu];exact Qcb b,by omega⟩
 ·rw [if_pos h1] at h;cases h
theorem Qea {t:List UInt8} (h:Xx t=0):t.all okV=true/\t.length<=21:=by
 unfold Xx at h;split at h
 ·rename_i k
  obtain ⟨k1,k2,k3,k4⟩:=k;unfold Qd9 at k2;unfold Xw at k3;rw [if_pos k1] at k2 k3;have e:=Xm k1;obtain ⟨a1,a2⟩:=Qfs k2;obtain ⟨b1,b2,b3⟩:=JK k3;rw [<- e,<- a1,<- V6 b1];refine ⟨by rw [QxG,QxB,QiP,QcF];rfl,?_⟩;have:=V7 (Zt (bef 58 t)).1;have:=Jp (u:=QM 0 (aft 58 t)) (QqZ b1);rw [Qxs,Qxv];omega
 ·cases h
theorem Qq2 {p:List Bool} (h:p.length<=32):(QbG p).all okV=true/\(QbG p).length<=21:=by
 unfold QbG;refine ⟨by rw [QxG,QxB,QiP,QcF];rfl,?_⟩;have:=V7 (QN p);have:=Jp (u:=p.length) (by omega);rw [Qxs,Qxv];omega
theorem Xo {s:SetS} (h:Zc s=0):1<=s.k/\s.k<=10/\(isT s.k=false->s.t=[])/\(isN s.k=false->s.n=0)/\(s.k≠10->s.p=[])/\(s.k=1\/s.k=4->ZX s.t=0)/\(s.k=6->s.t=[]\/(s.t≠W5/\ZX s.t=0))/\(s.k=7->Xx s.t=0)/\(isN s.k=true->0<=s.n/\s.n<=65535):=by
 unfold Zc at h;by_cases h1:s.k < 1\/10 < s.k
 ·rw [if_pos h1] at h;cases h
 rw [if_neg h1] at h;by_cases h2:(isT s.k=false/\s.t≠[])\/(isN s.k=false/\s.n≠0)\/(s.k≠10/\s.p≠[])
 ·rw [if_pos h2] at h;cases h
 rw [if_neg h2] at h;rw [not_or,not_or,not_and,not_and,not_and] at h2;refine ⟨by omega,by omega,fun k=>Decidable.not_not.1 (h2.1 k),fun k=>Decidable.not_not.1 (h2.2.1 k),fun k=>Decidable.not_not.1 (h2.2.2 k),fun k=>?_,fun k=>?_,fun k=>?_,fun k=>?_⟩
 ·rw [if_pos k] at h;exact h
 ·rw [if_neg (by omega),if_pos k] at h;by_cases h3:s.t=[]
  ·exact .inl h3
  ·rw [if_neg h3] at h;by_cases h4:s.t=W5
   ·rw [if_pos h4] at h;cases h
   ·rw [if_neg h4] at h;exact .inr ⟨h4,h⟩
 ·rw [if_neg (by omega),if_neg (by omega),if_pos k] at h;exact h
 ·have k':s.k=2\/s.k=8:=by unfold isN at k;simpa using k
  rw [if_neg (by omega),if_neg (by omega),if_neg (by omega),if_neg (by omega)] at h;by_cases h5:isN s.k=true/\(s.n < 0\/65535 < s.n)
  ·rw [if_pos h5] at h;cases h
  ·rw [not_and] at h5;have:=h5 k;omega
theorem QiR {n:Int} (h:0<=n):itoa n=decDigits n.toNat:=by unfold itoa;rw [if_neg (by omega)]
theorem Yn {k:Int}:isN k=true↔k=2\/k=8:=by unfold isN;simp
theorem QgR {k:Int}:isT k=true↔k=1\/k=4\/k=6\/k=7:=by unfold isT;simp [or_assoc]
theorem Qeb {k:Int} (h:k≠2) (h2:k≠8):isN k=false:=by
 cases hb:isN k with
 | false=>rfl
 | true=>rcases Yn.1 hb with e | e;exact absurd e h;exact absurd e h2
theorem QkT {k:Int} (h:k≠1) (h2:k≠4) (h3:k≠6) (h4:k≠7):isT k=false:=by
 cases hb:isT k with
 | false=>rfl
 | true=>rcases QgR.1 hb with e | e | e | e;exact absurd e h;exact absurd e h2;exact absurd e h3;exact absurd e h4
theorem QiS:W5.all okV=true/\W5.length=64:=by decide
theorem QgS {s:SetS} (h:Zc s=0) (hp:s.p.length<=32):(Zi s).all okV=true/\(Zi s).length<=64:=by
 obtain ⟨h1,h2,ht,hn,hpp,hk,h6,h7,hnn⟩:=Xo h;unfold Zi;by_cases a:isN s.k=true
 ·rw [if_pos a,QiR (hnn a).1];have:=Jp (u:=s.n.toNat) (by have:=hnn a;omega);exact ⟨QcF _,by omega⟩
 rw [if_neg a];by_cases b:s.k=3\/s.k=5\/s.k=9
 ·rw [if_pos b];decide
 rw [if_neg b];by_cases c:s.k=10
 ·rw [if_pos c];have:=Qq2 hp;exact ⟨this.1,by omega⟩
 rw [if_neg c];by_cases d:s.k=6/\s.t=[]
 ·rw [if_pos d];exact ⟨QiS.1,by rw [QiS.2];decide⟩
 rw [if_neg d]
 have hd:s.k=1\/s.k=4\/s.k=6\/s.k=7:=by
  rw [Yn] at a;omega
 rcases hd with e | e | e | e
 ·have:=XZ (hk (.inl e));exact ⟨this.1,by omega⟩
 ·have:=XZ (hk (.inr e));exact ⟨this.1,by omega⟩
 ·rcases h6 e with k | ⟨_,k⟩
  ·exact absurd ⟨e,k⟩ d
  ·have:=XZ k;exact ⟨this.1,by omega⟩
 ·have:=Qea (h7 e);exact ⟨this.1,by omega⟩
theorem Qq3 {s:SetS} (h:Zc s=0) (hp:s.p.length<=32):lnC (wrd s.k.toNat) (Zi s)=0:=by
 obtain ⟨h1,h2,_⟩:=Xo h;obtain ⟨_,w2,w3,w4⟩:=QkS h1 h2;obtain ⟨v1,v2⟩:=QgS h hp;unfold lnC;rw [if_neg (by omega),w2,v1];rfl
theorem Qoe {p:List Bool} (h:p.length<=32):YB (QN p) p.length=p:=by
 refine V4 (by rw [Yb]) (by rw [Yb];exact h) ?_;rw [QbD (ZD p) h,ZZ p h,Qxy]
theorem QiT {a:Nat}:(47:UInt8) ∉ Y1 a:=by
 have h:∀ u,(47:UInt8) ∉ decDigits u:=fun u=>QaW (QcE u) (by decide);unfold Y1;rw [Wl,Wl,Wl,join_one];simp [h]
theorem Qq4 {p:List Bool} (h:p.length<=32):JE (QbG p)=(p,0):=by
 have b:bef 47 (QbG p)=Y1 (QN p):=QgM _ QiT;have a:aft 47 (QbG p)=decDigits p.length:=QgN _ QiT;have r:=Qq1 (QN p) (ZD p);unfold JE;rw [b,a,r,Jo];have e:Zl (QN p) p.length=QN p:=by rw [ZZ p h,Qxy]
 rw [if_pos ⟨by unfold QbG;simp,rfl,(QgQ (by omega) (by omega)).1,e⟩];show (YB (QN p) p.length,(0:Int))=_;rw [Qoe h]
theorem QiU (s:List UInt8):(JE s).1.length<=32:=by
 unfold JE;split
 ·rename_i h
  have:=(JK h.2.2.1).2.2;show (YB _ _).length<=32;rw [Yb];omega
 ·decide
theorem Qof {s:SetS} (h:Zc s=0) (hp:s.p.length<=32):Wv (wrd s.k.toNat,Zi s)=(s,0):=by
 have hi:=Xo h;obtain ⟨h1,h2,ht,hn,hpp,hk,h6,h7,hnn⟩:=hi;obtain ⟨w1,_⟩:=QkS h1 h2
 have key:rd0 (wrd s.k.toNat,Zi s)=s:=by
  unfold rd0;simp only [w1];by_cases a:isN s.k=true
  ·have a':=Yn.1 a;rw [if_pos a'];have e:Zi s=decDigits s.n.toNat:=by unfold Zi;rw [if_pos a,QiR (hnn a).1]
   have hb:=hnn a;rw [e,(QgQ (u:=s.n.toNat) (most:=65535) (by omega) (by omega)).1,(QgQ (u:=s.n.toNat) (most:=65535) (by omega) (by omega)).2,if_pos rfl];have e1:=ht (QkT (by omega) (by omega) (by omega) (by omega));have e2:=hpp (by omega);obtain ⟨k,t,n,p⟩:=s;have e3:((n.toNat:Nat):Int)=n:=by have:0<=n:=hb.1;omega
   show SetS.mk k [] ((n.toNat:Nat):Int) []=_;rw [e3];have e1:t=[]:=e1;have e2:p=[]:=e2;rw [e1,e2]
  have a':¬ (s.k=2\/s.k=8):=fun k=>a (Yn.2 k);rw [if_neg a'];have hN:isN s.k=false:=by cases hb:isN s.k with | false=>rfl | true=>exact absurd hb a
  have en:=hn hN;by_cases b:s.k=3\/s.k=5\/s.k=9
  ·rw [if_pos b];have e1:=ht (QkT (by omega) (by omega) (by omega) (by omega));have e2:=hpp (by omega);obtain ⟨k,t,n,p⟩:=s;have e1:t=[]:=e1;have e2:p=[]:=e2;have e3:n=0:=en;rw [e1,e2,e3]
  rw [if_neg b];by_cases c:s.k=10
  ·rw [if_pos c];have e:Zi s=QbG s.p:=by unfold Zi;rw [if_neg a,if_neg b,if_pos c]
   have e1:=ht (QkT (by omega) (by omega) (by omega) (by omega));rw [e,Qq4 hp];obtain ⟨k,t,n,p⟩:=s;have e1:t=[]:=e1;have e2:k=10:=c;have e3:n=0:=en;rw [e1,e2,e3]
  rw [if_neg c];have e2:=hpp c;by_cases d:s.k=6/\s.t=[]
  ·have e:Zi s=W5:=by unfold Zi;rw [if_neg a,if_neg b,if_neg c,if_pos d]
   rw [if_pos ⟨d.1,e⟩];obtain ⟨k,t,n,p⟩:=s;have e1:t=[]:=d.2;have e2:p=[]:=e2;have e3:n=0:=en;have e4:k=6:=d.1;rw [e1,e2,e3,e4]
  have e:Zi s=s.t:=by unfold Zi;rw [if_neg a,if_neg b,if_neg c,if_neg d]
  have nz:¬ (s.k=6/\Zi s=W5):=fun k=>by
   rw [e] at k;rcases h6 k.1 with q | ⟨q,_⟩
   ·exact d ⟨k.1,q⟩
   ·exact q k.2
  rw [if_neg nz,e];obtain ⟨k,t,n,p⟩:=s;have e2:p=[]:=e2;have e3:n=0:=en;rw [e2,e3]
 have ln:Zr s=((wrd s.k.toNat,Zi s),0):=by unfold Zr;rw [if_pos h]
 unfold Wv;rw [key,ln];rw [if_neg (by show ¬ QI (wrd s.k.toNat) 10=0;rw [w1];omega),if_pos ⟨rfl,rfl⟩]
theorem QgT {l:LnP} (h:(Wv l).2=0):Zr (Wv l).1=(l,0)/\Zc (Wv l).1=0:=by
 unfold Wv at h ⊢;by_cases h1:QI l.1 10=0
 ·rw [if_pos h1] at h;cases h
 rw [if_neg h1] at h ⊢;by_cases h2:(Zr (rd0 l)).2=0/\(Zr (rd0 l)).1=l
 ·rw [if_pos h2];refine ⟨Prod.ext h2.2 h2.1,?_⟩;have:=h2.1;unfold Zr at this;split at this
  ·assumption
  ·exact this
 ·rw [if_neg h2] at h;cases h
end
section
open Go.RowKit
def lnc (x:LnP):Nat->EV
 | 0=>.s x.1
 | _=>.s x.2
abbrev lnF (L:List LnP):Nat->Nat->EV:=fun i j=>lnc (L.getD i ([],[])) j
abbrev Qq5 (L:List LnP):EV:=.lz L.length 2 (lnF L)
theorem Xp {n sz:Nat} {f g:Nat->Nat->EV} {m:List EV} (h1:∀ a,a < n -> ∀ j,j < sz->f a j=g a j) (h2:∀ j,j < sz->m.getD j .any=g n j):∀ a,a < n+1 -> ∀ j,j < sz->(bif Nat.blt a n then f a j else m.getD ((a - n) * sz+j) .any)=g a j:=by
 intro a ha j hj;by_cases hq:a < n
 ·have:Nat.blt a n=true:=by simpa [Nat.blt_eq] using hq
  rw [this];exact h1 a hq j hj
 ·obtain rfl:a=n:=by omega
  have:Nat.blt a a=false:=by cases hb:Nat.blt a a with | false=>rfl | true=>(rw [Nat.blt_eq] at hb;omega)
  rw [this,Nat.sub_self,Nat.zero_mul,Qxu];exact h2 j hj
theorem Qun (L:List (List UInt8)):∀ i,i < L.length -> ∀ j,j < 2->(fun a b=>lnc (XX (L.getD a [])) b) i j=lnF (L.map XX) i j:=by
 intro i hi j hj;show lnc (XX (L.getD i [])) j=lnc ((L.map XX).getD i ([],[])) j;rw [Qxo,Qxo,QxC,Qxp hi];rfl
theorem QkU {l:List UInt8} {c:UInt8} (h:c∈l) (hl:l.length<=1100000):Cf Tryz.prog 183 [] [.s l,.s [c]] [] (.tup [.s (bef c l),.s (aft c l),.b true]):=by
 have hT1:(((bef c l).length:Nat):Int).toNat=(bef c l).length:=by omega
 have hT2:(((bef c l).length:Int)+((([c]:List UInt8).length:Nat):Int)).toNat=(bef c l).length+1:=by simp only [List.length_singleton];omega
 have hT3:((([c]:List UInt8).length:Nat):Int)=1:=rfl;have hI:=Qed (l:=l) (c:=c);rw [QqM h] at hI;have hle:(bef c l).length+(aft c l).length+1=l.length:=by rw [<- congrArg List.length (Xm h)];simp;omega
 refine QJ {} Tryz.func183 Tryz.ntmps183 ?_;refine clX hI ?_
 repeat refine o0 ?_
 refine ⟨fun h1=>?_,fun h1=>?_⟩
 ·skip
  refine ⟨[0,0,3,0,0,0,32,112,248,7,1023,2047],by kernel_rfl,?_⟩
  repeat (refine Ob.mk ?_ ?_;focus (first | (rw [hT3];omega) | (show List.drop ((((bef c l).length:Int)+((([c]:List UInt8).length:Nat):Int)).toNat) l=_;rw [hT2];exact QqO h) | (show List.take ((((bef c l).length:Nat):Int).toNat) l=_;rw [hT1];exact QqN h) | (exact Eq.refl _) | omega))
  trivial
 ·skip
  exfalso;simp at h1
theorem QkV {l:List UInt8} {c:UInt8} (h:c ∉ l):Cf Tryz.prog 183 [] [.s l,.s [c]] [] (.tup [.s l,.s [],.b false]):=by
 have hI:=Qed (l:=l) (c:=c);rw [QmE h] at hI;refine QJ {} Tryz.func183 Tryz.ntmps183 ?_;refine clX hI ?_
 repeat refine o0 ?_
 refine ⟨fun h1=>?_,fun h1=>?_⟩
 ·skip
  exact absurd (show false=true from h1) (by decide)
 ·skip
  repeat refine o0 ?_
  trivial
theorem Quo {l:List UInt8} {c:UInt8} (hl:l.length<=1100000):Cf Tryz.prog 183 [] [.s l,.s [c]] [] (.tup [.s (bef c l),.s (aft c l),.b (decide (c∈l))]):=by
 by_cases h:c∈l
 ·rw [decide_eq_true h];exact QkU h hl
 ·rw [decide_eq_false h,QgO h,QcC h];exact QkV h
theorem QgV {l:List UInt8} {c:UInt8} (hl:l.length<=1100000):Cf Tryz.prog 147 [] [.s l,.s [c]] [] (.tup [.s (bef c l),.s (aft c l),.b (decide (c∈l))]):=by
 refine Qr {} Tryz.func147 Tryz.ntmps147 ?_;refine clX (Quo (l:=l) (c:=c) hl) ?_
 repeat refine o0 ?_
 trivial
theorem QkW {k v:List UInt8}:Cf Tryz.prog 161 [] [.agg [.s k,.s v]] [] (.i (lnC k v)):=by
 refine Qr {} Tryz.func161 Tryz.ntmps161 ?_
 repeat refine o22 ?_
 refine ⟨fun h1=>?_,fun h1=>?_⟩
 ·skip
  have c1:=h1
  (simp only [bsX] at c1)
  have hR:lnC k v=1:=by unfold lnC;exact if_pos (by omega)
  repeat refine o18 ?_
  trivial
 ·skip
  have c1:=h1
  (simp only [bsX] at c1)
  have hG:¬ (k.length < 1\/30 < k.length\/70 < v.length):=by omega
  refine ⟨Nat,fun i=>⟨[(1,.own 1001 0),(25,.i (k.length:Int)),(26,.i (i:Int))],[(1001,.box [.s k,.s v] 196)]⟩,fun i=>i<=k.length/\(k.take i).all okK=true,fun i=>k.length - i,0,(by simp),?_,fun i hx1=>?_⟩
  ·skip
   repeat refine o0 ?_
   trivial
  refine ⟨fun h2=>?_,fun h2=>?_⟩
  ·skip
   have c2:=h2
   (simp only [bsX] at c2)
   have hi:i < k.length:=by omega
   repeat (refine Ob.mk ?_ ?_;focus (first | omega | (exact fun hg=>ZQ hg) | (exact fun hg=>Yz hg) | (exact fun hg=>hg)))
   refine ⟨fun h3=>?_,fun h3=>?_⟩
   ·skip
    (simp only [Int.reduceToNat,UInt8.reduceOfNat] at h3)
    have c3:=h3
    (simp only [bsX] at c3)
    have hR:lnC k v=3:=QqQ hG hi (Qwv (by simpa using h3))
    repeat refine o18 ?_
    trivial
   ·skip
    (simp only [Int.reduceToNat,UInt8.reduceOfNat] at h3)
    have c3:=h3
    (simp only [bsX] at c3)
    have hx:=Qd8 hi hx1.2 (f:=okK) (Qui (by simpa using h3))
    repeat refine o4 ?_
    refine ⟨i+1,(by (simp_all;omega)),(by (simp only [SrcE.len,Qxu,Qxs,Qxv,QxH];omega)),?_⟩
    repeat refine o0 ?_
    trivial
  ·skip
   have c2:=h2
   (simp only [bsX] at c2)
   have hi:i=k.length:=by have:=hx1.1;omega
   subst hi;refine ⟨Nat,fun j=>⟨[(1,.own 1001 0),(46,.i (v.length:Int)),(47,.i (j:Int))],[(1001,.box [.s k,.s v] 196)]⟩,fun j=>j<=v.length/\(v.take j).all okV=true,fun j=>v.length - j,0,(by simp),?_,fun j hx2=>?_⟩
   ·skip
    repeat refine o0 ?_
    trivial
   refine ⟨fun h4=>?_,fun h4=>?_⟩
   ·skip
    have c4:=h4
    (simp only [bsX] at c4)
    have hj:j < v.length:=by omega
    repeat refine o68 ?_
    refine ⟨fun h5=>?_,fun h5=>?_⟩
    ·skip
     (simp only [Int.reduceToNat,UInt8.reduceOfNat] at h5)
     have c5:=h5
     (simp only [bsX] at c5)
     have hR:lnC k v=3:=QqR hG hj (Qww (by simpa using h5))
     repeat refine o18 ?_
     trivial
    ·skip
     (simp only [Int.reduceToNat,UInt8.reduceOfNat] at h5)
     have c5:=h5
     (simp only [bsX] at c5)
     have hy:=Qd8 hj hx2.2 (f:=okV) (Quj (by simpa using h5))
     repeat refine o4 ?_
     refine ⟨j+1,(by (simp_all;omega)),(by (simp only [SrcE.len,Qxu,Qxs,Qxv,QxH];omega)),?_⟩
     repeat refine o0 ?_
     trivial
   ·skip
    have c4:=h4
    (simp only [bsX] at c4)
    have hj:j=v.length:=by have:=hx2.1;omega
    subst hj;have hR:=QqS hG hx1.2 hx2.2
    repeat refine o18 ?_
    trivial
theorem QkX {s:List UInt8}:Cf Tryz.prog 117 [] [.s s] [] (.tup [Qq5 (Qm s).1,.i (Qm s).2.1,.i (Qm s).2.2]):=by
 refine Qr {nl:=[(6,196,2)]} Tryz.func117 Tryz.ntmps117 ?_;refine ⟨fun h1=>?_,fun h1=>?_⟩
 ·skip
  have c1:=h1
  (simp only [bsX] at c1)
  have hR:Qm s=([],0,1):=by unfold Qm;rw [if_pos (by omega)]
  repeat refine o46 ?_
  trivial
 ·skip
  have c1:=h1
  (simp only [bsX] at c1)
  refine ⟨fun h2=>?_,fun h2=>?_⟩
  ·skip
   have c2:=h2
   (simp only [bsX] at c2)
   have hR:Qm s=([],0,0):=by unfold Qm;rw [if_neg (by omega),if_pos (by simpa using h2)]
   repeat refine o46 ?_
   trivial
  ·skip
   have c2:=h2
   (simp only [bsX] at c2)
   refine clX (QiX (l:=s) (c:=10) (by omega)) ?_
   repeat refine o0 ?_
   refine ⟨fun h3=>?_,fun h3=>?_⟩
   ·skip
    have c3:=h3
    (simp only [bsX] at c3)
    have hR:Qm s=([],0,1):=by unfold Qm;rw [if_neg (by omega),if_neg (by simpa using h2),if_pos (by omega)]
    repeat refine o46 ?_
    trivial
   ·skip
    have c3:=h3
    (simp only [bsX] at c3)
    have hS:Qm s=lnR [] 0 (spl 10 s):=by unfold Qm;rw [if_neg (by omega),if_neg (by simpa using h2),if_neg (by omega)]
    refine ⟨Nat,fun i=>⟨[(6,.osl 1006 i),(24,QdX (spl 10 s)),(25,.i ((spl 10 s).length:Int)),(26,.i (i:Int))],[(1006,.rz i 2 (fun a b=>lnc (XX ((spl 10 s).getD a [])) b) 196 0)]⟩,fun i=>i<=(spl 10 s).length/\lnR (((spl 10 s).take i).map XX) i ((spl 10 s).drop i)=lnR [] 0 (spl 10 s),fun i=>(spl 10 s).length - i,0,⟨Nat.zero_le _,rfl⟩,?_,fun i hx1=>?_⟩
    ·skip
     repeat refine o7 ?_
     trivial
    refine ⟨fun h4=>?_,fun h4=>?_⟩
    ·skip
     have c4:=h4
     (simp only [bsX] at c4)
     have hi:i < (spl 10 s).length:=by omega
     have hL:=Qwx hi (((spl 10 s).take i).map XX);rw [hx1.2] at hL;have hpl:=QqP (c:=10) (l:=s) i
     repeat refine o3 ?_
     refine clX (QgV (l:=(spl 10 s).getD i []) (c:=61) (by omega)) ?_
     repeat refine o0 ?_
     refine ⟨fun h5=>?_,fun h5=>?_⟩
     ·skip
      have c5:=h5
      (simp only [bsX] at c5)
      have hm:(61:UInt8) ∉ (spl 10 s).getD i []:=by simpa using h5
      rw [if_neg hm] at hL;have hR:=hS.trans hL
      repeat refine o52 ?_
      trivial
     ·skip
      have c5:=h5
      (simp only [bsX] at c5)
      have hm:(61:UInt8)∈(spl 10 s).getD i []:=by simpa using h5
      rw [if_pos hm] at hL;refine clX (QkW (k:=bef 61 ((spl 10 s).getD i [])) (v:=aft 61 ((spl 10 s).getD i []))) ?_
      repeat refine o0 ?_
      refine ⟨fun h6=>?_,fun h6=>?_⟩
      ·skip
       have c6:=h6
       (simp only [bsX] at c6)
       rw [if_neg (by simpa using h6)] at hL;have hR:=hS.trans hL
       repeat refine o52 ?_
       trivial
      ·skip
       have c6:=h6
       (simp only [bsX] at c6)
       rw [if_pos (by simpa using h6),<- Qob hi] at hL;have hx:=hL.symm
       repeat refine o23 ?_
       refine ⟨i+1,(by (simp_all;omega)),(by (simp only [SrcE.len,Qxu,Qxs,Qxv,QxH];omega)),?_⟩
       repeat (refine Ob.mk ?_ ?_;focus (first | (exact Xp (fun _ _ _ _=>rfl) (fun j hj=>by (have hj2:j=0\/j=1:=by omega);rcases hj2 with rfl | rfl <;> exact Eq.refl _)) | (exact Eq.refl _) | (exact Nat.le_of_ble_eq_true rfl) | (intro hg;((intro hq;((simp_all;done)))))))
       trivial
    ·skip
     have c4:=h4
     (simp only [bsX] at c4)
     have hi:i=(spl 10 s).length:=by have:=hx1.1;omega
     subst hi;have hR:Qm s=((spl 10 s).map XX,0,0):=by rw [hS,<- hx1.2,Quk,Qxy]
     have hml:((spl 10 s).map XX).length=(spl 10 s).length:=Qxz ..
     repeat (refine Ob.mk ?_ ?_;focus (first | (rw [hR];done) | (rw [hR];exact hml.symm) | (rw [hR];exact Qun _) | (exact Eq.refl _)))
     trivial
end
section
open Go.RowKit Go.Lib
theorem gPow:Tryz.prog.globalNamed "internal/strconv.uint64pow10" = some 1:=by kernel_rfl
theorem tPow:(Tryz.prog.globals[1]?).map (·.type)=some 294:=by kernel_rfl
theorem QrM:(Lib.pow10Tab.map fun z=>Value.int .u64 z)=[.int .u64 1,.int .u64 10,.int .u64 100,.int .u64 1000,.int .u64 10000,.int .u64 100000,.int .u64 1000000,.int .u64 10000000,.int .u64 100000000,.int .u64 1000000000,.int .u64 10000000000,.int .u64 100000000000,.int .u64 1000000000000,.int .u64 10000000000000,.int .u64 100000000000000,.int .u64 1000000000000000,.int .u64 10000000000000000,.int .u64 100000000000000000,.int .u64 1000000000000000000,.int .u64 10000000000000000000]:=by kernel_rfl
theorem QrN:QfO=[(1,Lib.pow10Tab.map fun z=>Value.int .u64 z)]:=by rw [QrM];rfl
theorem QuR {w:World} {Pub:Nat->Nat->Prop} (h:Amb w Pub):Lib.TabIs Tryz.prog w "internal/strconv.uint64pow10" .u64 Lib.pow10Tab:=by
 obtain ⟨_,ty,fz,hb⟩:=h (1,Lib.pow10Tab.map fun z=>Value.int .u64 z) (by rw [QrN];exact QxJ.2 rfl);unfold Lib.TabIs World.var?;rw [gPow];simp only [QxK];rw [hb]
theorem QrO:(Rows.laid_internal_strconv_uint64pow10:DataW Unit)=Lib.tabData .u64 Lib.pow10Tab:=by kernel_rfl
theorem QrP {rest:List (String×DataW Unit)} {W:World} (h:laidMet Tryz.prog (("internal/strconv.uint64pow10",Rows.laid_internal_strconv_uint64pow10)::rest) W):Amb W (fun b _=>b < W.heap.size):=by
 rw [QrO] at h;have k:=Lib.tabIs_of_head gPow tPow Tryz.underlying294 Tryz.underlying140 (by kernel_rfl) (by kernel_rfl) h;unfold Lib.TabIs World.var? at k;rw [gPow] at k;simp only [QxK] at k;intro t ht;rw [QrN,QxJ] at ht;subst ht;split at k
 ·next cs ty fz hb =>
  cases k;exact ⟨fun _=>(QxA.1 hb).1,ty,fz,hb⟩
 ·cases k
theorem Cf.ofA {P:Program} {f:FuncId} {ags:List EV} {u:Value} (hc:QX P f=true)
  (h:∀ (w:World) (Pub:Nat->Nat->Prop) (φ:Qi) (vs:List Value),(∀ b i,Pub b i->b < w.heap.size)->Amb w Pub->RAs w Pub φ (avL ags) vs->Calls P f vs.toArray w fun e w'=>e=.returned u/\Below w.heap.size w w'):Cf P f [] ags [] (.v u):=by
 refine ⟨hc,fun E φ Pub w vs e1 e2 I hR=>(h w Pub φ vs I.publ I.amb hR).mono ?_⟩;rintro e w' ⟨rfl,hb⟩;exact ⟨u,φ,Pub,rfl,I.below e1 hb,by unfold EV.av RA RP;rfl⟩
theorem Qa7 {n:Int} (h0 : -9223372036854775808<=n) (h1:n<=9223372036854775807):Cf Tryz.prog 73 [] [.i n] [] (.s (Lib.itoa n)) :=
 Cf.ofA (by kernel_rfl) fun w Pub φ vs hp hA hR=>by
  obtain ⟨u,rfl,k1⟩:=ra1 hR;have e1:=Ya k1;subst e1;exact (Tryz.strconv_Itoa n h0 h1 w (QuR hA)).mono fun e w' ⟨e2,k,os,e3⟩=>⟨e2,by rw [e3];exact below_grow _ _ (Qxw _) _ _⟩
theorem Zz {u:Nat} {n:Int} (hn:n=(u:Int)) (h:u < 4294967296):Cf Tryz.prog 73 [] [.i n] [] (.s (Lib.decDigits u)):=by
 subst hn;have:=Qa7 (n:=(u:Int)) (by omega) (by omega);have e:Lib.itoa (u:Int)=Lib.decDigits u:=by unfold Lib.itoa;rw [if_neg (by omega),Qxt]
 rw [e] at this;exact this
end
end Go.Proofs.YtcebndkiagbddaaGreatDoor
