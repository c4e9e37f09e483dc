/- A part of the proof: contracts of functions and what they stand on. Written shorter and merged by a program (pack.py). -/
import Derived.Test.YtcebndkiagbddaaGreatDoorK31
set_option linter.unusedVariables false
set_option linter.unusedSimpArgs false
set_option maxRecDepth 100000
set_option maxHeartbeats 4000000
open List renaming getD_eq_getElem?_getD -> Qxo, getElem?_eq_getElem -> Qxp, flatMap_cons -> Qxq, length_take -> Qxr, length_cons -> Qxw, mem_iff_getElem -> Qxt, length_append -> Qxv
open UInt64 renaming toNat_ofNat' -> Qxu
namespace Go.Proofs.YtcebndkiagbddaaGreatDoor
section
open Go.RowKit
theorem QmX {p n:List Bool} (hp:p.length<=32):Cf Tryz.prog 157 [] [We p,.pp [.u32 (adr n),.i (n.length:Int)] 0] [] (.b (decide (p=n))):=by
 refine Qr {} Tryz.func157 Tryz.ntmps157 ?_
 repeat refine o69 ?_
 trivial
theorem Qrv {ns:List (List Bool)} {n:List Bool} (hl:ns.length<=1000) (hb:∀ x∈ns,x.length<=32):Cf Tryz.prog 98 [(0,.rz ns.length 2 (fun i j=>Qz (ns.getD i []) j) 36 0)] [.osl 0 ns.length,.fn 157 [.pp [.u32 (adr n),.i (n.length:Int)] 0]] [(0,.rz ns.length 2 (fun i j=>Qz (ns.getD i []) j) 36 0)] (.i (Vq ns n)):=by
 refine Qr {} Tryz.func98 Tryz.ntmps98 ?_;refine ⟨Nat,fun k=>⟨[(0,.osl 0 ns.length),(1,.fn 157 [.pp [.u32 (adr n),.i (n.length:Int)] 0]),(7,.i (ns.length:Int)),(8,.i (k:Int))],[(0,.rz ns.length 2 (fun i j=>Qz (ns.getD i []) j) 36 0)]⟩,fun k=>k<=ns.length /\ ∀ i,i < k->ns.getD i []≠n,fun k=>ns.length - k,0,⟨Nat.zero_le _,fun i hi=>absurd hi (Nat.not_lt_zero _)⟩,?_,fun k hx1=>?_⟩
 ·skip
  repeat refine o7 ?_
  trivial
 refine ⟨fun h1=>?_,fun h1=>?_⟩
 ·skip
  have c1:=h1
  (simp only [bsX] at c1)
  have hk:k < ns.length:=by omega
  repeat refine o3 ?_
  refine clX (QmX (n:=n) (Xr hb k)) ?_
  repeat refine o0 ?_
  refine ⟨fun h2=>?_,fun h2=>?_⟩
  ·skip
   have c2:=h2
   (simp only [bsX] at c2)
   have hO:=Qk1 hk hx1.2 (of_decide_eq_true h2)
   repeat refine o19 ?_
   trivial
  ·skip
   have c2:=h2
   (simp only [bsX] at c2)
   have hO:=of_decide_eq_false h2
   repeat refine o4 ?_
   have hnx:k+1<=ns.length /\ ∀ i,i < k+1->ns.getD i []≠n:=⟨hk,fun i hi=>(Nat.lt_or_ge i k).elim (hx1.2 i) fun q e=>hO (by rw [<- e,show i=k from by omega])⟩;refine Qt (k+1) ?_
   repeat refine o7 ?_
   trivial
 ·skip
  have c1:=h1
  (simp only [bsX] at c1)
  have hO:=Qk2 (ns:=ns) (n:=n) fun i hi=>hx1.2 i (by omega)
  repeat refine o19 ?_
  trivial
theorem Qfz {ns:List (List Bool)} {n:List Bool} {k:Int} (hl:ns.length<=1000) (hb:∀ x∈ns,x.length<=32) (h:Vq ns n=k):Cf Tryz.prog 98 [(0,.rz ns.length 2 (fun i j=>Qz (ns.getD i []) j) 36 0)] [.osl 0 ns.length,.fn 157 [.pp [.u32 (adr n),.i (n.length:Int)] 0]] [(0,.rz ns.length 2 (fun i j=>Qz (ns.getD i []) j) 36 0)] (.i k):=h ▸ Qrv hl hb
theorem Qol {ns:List (List Bool)} {n:List Bool} (hl:ns.length<=1000) (hb:∀ x∈ns,x.length<=32) (hI:Vq ns n = -1):Cf Tryz.prog 54 [(0,.rz ns.length 2 (fun i j=>Qz (ns.getD i []) j) 36 0)] [.osl 0 ns.length,.fn 157 [.pp [.u32 (adr n),.i (n.length:Int)] 0]] [(0,.rz ns.length 2 (fun i j=>Qz (ns.getD i []) j) 36 0)] (.osl 0 ns.length):=by
 refine Qr {} Tryz.func54 Tryz.ntmps54 ?_;refine clX (Qfz hl hb hI) ?_
 repeat refine o7 ?_
 refine ⟨fun h1=>?_,fun h1=>?_⟩
 ·skip
  (simp only [Int.reduceToNat,UInt8.reduceOfNat] at h1)
  have c1:=h1
  (simp only [bsX] at c1)
  repeat refine o7 ?_
  trivial
 ·skip
  (simp only [Int.reduceToNat,UInt8.reduceOfNat] at h1)
  have c1:=h1
  (simp only [bsX] at c1)
  exact absurd (show true=false from h1) (by decide)
theorem Qom {ns:List (List Bool)} {n:List Bool} {k0:Nat} (hl:ns.length<=1000) (hb:∀ x∈ns,x.length<=32) (hI:Vq ns n=(k0:Int)) (h0:(QH (ns.take (k0+1)) n).length=k0) (hk:DelI ns n (k0+1) ns):Cf Tryz.prog 54 [(0,.rz ns.length 2 (fun i j=>Qz (ns.getD i []) j) 36 0)] [.osl 0 ns.length,.fn 157 [.pp [.u32 (adr n),.i (n.length:Int)] 0]] [(0,.rz (QH ns n).length 2 (fun i j=>Qz ((QH ns n).getD i []) j) 36 0)] (.osl 0 (QH ns n).length):=by
 have hk1:=hk.le;refine Qr {cut:=[38,41]} Tryz.func54 Tryz.ntmps54 ?_;refine clX (Qfz hl hb hI) ?_
 repeat refine o7 ?_
 refine ⟨fun h1=>?_,fun h1=>?_⟩
 ·skip
  have c1:=h1
  (simp only [bsX] at c1)
  exact absurd c1 (by omega)
 ·skip
  have c1:=h1
  (simp only [bsX] at c1)
  repeat refine o4 ?_
  refine ⟨Nat×List (List Bool),fun s=>⟨[(0,.osl 0 ns.length),(1,.fn 157 [.pp [.u32 (adr n),.i (n.length:Int)] 0]),(5,.i ((QH (ns.take s.1) n).length:Int)),(6,.i (s.1:Int))],[(0,.rz ns.length 2 (fun i j=>Qz (s.2.getD i []) j) 36 0)]⟩,fun s=>DelI ns n s.1 s.2,fun s=>ns.length - s.1,(k0+1,ns),hk,?_,fun s hx1=>?_⟩
  ·skip
   repeat refine o36 ?_
   trivial
  refine ⟨fun h2=>?_,fun h2=>?_⟩
  ·skip
   have c2:=h2
   (simp only [bsX] at c2)
   have hj:s.1 < ns.length:=by omega
   have hg:s.2.getD s.1 []=ns.getD s.1 []:=QmQ hx1.dr (Nat.le_refl _);have hlt:=hx1.lt;have hlen:=hx1.len
   repeat refine o3 ?_
   refine clX (QmX (n:=n) (Xr hb s.1)) ?_
   repeat refine o70 ?_
   refine ⟨fun h3=>?_,fun h3=>?_⟩
   ·skip
    have c3:=h3
    (simp only [bsX] at c3)
    have hz:(if ns.getD s.1 []=n then s.2 else s.2.set (QH (ns.take s.1) n).length (ns.getD s.1 []))=s.2.set (QH (ns.take s.1) n).length (ns.getD s.1 []):=if_neg c3;have hd:=QcG hj c3;have hdl:(QH (ns.take (s.1+1)) n).length=(QH (ns.take s.1) n).length+1:=by rw [hd];simp
    have hnx:=hx1.ne hj c3;rw [<- hz] at hnx
    repeat refine o4 ?_
    refine Qt (s.1+1,if ns.getD s.1 []=n then s.2 else s.2.set (QH (ns.take s.1) n).length (ns.getD s.1 [])) ?_
    repeat refine o71 ?_
    trivial
   ·skip
    have c3:=h3
    (simp only [bsX] at c3)
    have hz:(if ns.getD s.1 []=n then s.2 else s.2.set (QH (ns.take s.1) n).length (ns.getD s.1 []))=s.2:=if_pos c3;have hd:=Ju hj c3;have hnx:=hx1.eq hj c3;rw [<- hz] at hnx
    repeat refine o4 ?_
    refine Qt (s.1+1,if ns.getD s.1 []=n then s.2 else s.2.set (QH (ns.take s.1) n).length (ns.getD s.1 [])) ?_
    repeat refine o53 ?_
    trivial
  ·skip
   have c2:=h2
   (simp only [bsX] at c2)
   have hlt:=hx1.lt;have hle:=hx1.le;have hfin:=hx1.fin (by omega)
   repeat refine o54 ?_
   trivial
theorem Qo {ns:List (List Bool)} {n:List Bool} (hl:ns.length<=1000) (hb:∀ x∈ns,x.length<=32):Cf Tryz.prog 54 [(0,.rz ns.length 2 (fun i j=>Qz (ns.getD i []) j) 36 0)] [.osl 0 ns.length,.fn 157 [.pp [.u32 (adr n),.i (n.length:Int)] 0]] [(0,.rz (QH ns n).length 2 (fun i j=>Qz ((QH ns n).getD i []) j) 36 0)] (.osl 0 (QH ns n).length):=by
 by_cases h:n∈ns
 ·obtain ⟨k,h1,h2,h3,h4⟩:=Qrn h;have e:=Qel k (by omega) h4;have e2:=Ju h1 h3;have e3:(QH (ns.take (k+1)) n).length=k:=by rw [e2,e,Qxr];omega
  refine Qom hl hb h2 e3 ⟨by omega,rfl,?_,rfl,by omega⟩;rw [e3,e2,e]
 ·have e:QH ns n=ns:=List.filter_eq_self.2 fun x hx=>by simp;exact fun k=>h (k ▸ hx)
  rw [e];exact Qol hl hb (by unfold Vq;rw [if_neg h])
theorem Qja (ns:List (List Bool)):lzC ns.length 2 (fun a b=>Qz (ns.getD a []) b)=pvL (ns.flatMap fun p=>[EV.u32 (adr p),.i (p.length:Int)]):=by
 induction ns with
 | nil=>rfl
 | cons p ns ih =>
  have e:=Vi 1 ns.length 2 (fun a b=>Qz ((p::ns).getD a []) b);rw [Nat.add_comm 1] at e;rw [Qxw,e,Qxq]
  have e2:(fun a b=>Qz ((p::ns).getD (1+a) []) b)=fun a b=>Qz (ns.getD a []) b:=by
   funext a b;rw [Nat.add_comm 1 a,List.getD_cons_succ]
  rw [e2,ih];rfl
theorem Qrw (ns:List (List Bool)):∀ k,(ns.flatMap fun p=>[EV.u32 (adr p),.i (p.length:Int)]).take (k * 2)=(ns.take k).flatMap (fun p=>[EV.u32 (adr p),.i (p.length:Int)])/\(ns.flatMap fun p=>[EV.u32 (adr p),.i (p.length:Int)]).drop (k * 2)=(ns.drop k).flatMap fun p=>[EV.u32 (adr p),.i (p.length:Int)]:=by
 induction ns with
 | nil=>intro k;simp
 | cons p ns ih =>
  intro k
  cases k with
  | zero=>simp
  | succ k =>
   obtain ⟨h1,h2⟩:=ih k;rw [Nat.succ_mul,Qxq,List.take_succ_cons,List.drop_succ_cons,Qxq,<- h1,<- h2];exact ⟨rfl,rfl⟩
theorem Qk5 (ns:List (List Bool)):(ns.flatMap fun p=>[EV.u32 (adr p),.i (p.length:Int)]).length=ns.length * 2:=by
 induction ns with
 | nil=>rfl
 | cons p ns ih=>rw [Qxq,Qxv,ih];simp only [Qxw,List.length_nil];omega
abbrev J3 (ns:List (List Bool)) (k:Nat) (n:List Bool):List (List Bool):=ns.take k++n::ns.drop k
theorem Qjb {ns:List (List Bool)} {k:Nat} {n:List Bool} (hk:k<=ns.length):(J3 ns k n).length=ns.length+1:=by
 show (ns.take k++n::ns.drop k).length=_;rw [Qxv,Qxw,Qxr,List.length_drop];omega
theorem X3 {ns:List (List Bool)} {n:List Bool} {k:Nat} (hk:k<=ns.length) (hn:ns.length<=1000000) :
  Cf Tryz.prog 159 [(0,.rz ns.length 2 (fun a b=>Qz (ns.getD a []) b) 36 0),(1,.row [.u32 (adr n),.i (n.length:Int)] 36 2 0)] [.osl 0 ns.length,.i (k:Int),.osl 1 1]
   [(60,.rz (J3 ns k n).length 2 (fun a b=>Qz ((J3 ns k n).getD a []) b) 36 0)] (.osl 60 (J3 ns k n).length):=by
 have hl:=Qjb (n:=n) hk;have hc:=Qk5 ns
 have k0:=Cf.ins (n:=ns.length) (k:=k) (cells:=ns.flatMap fun p=>[EV.u32 (adr p),.i (p.length:Int)]) (xs:=[.u32 (adr n),.i (n.length:Int)]) (eb:=.rz ns.length 2 (fun a b=>Qz (ns.getD a []) b) 36 0) (ob:=.rz (J3 ns k n).length 2 (fun a b=>Qz ((J3 ns k n).getD a []) b) 36 0) QwS (by kernel_rfl) (by decide) (by decide) (by
  show OB.row (lzC ns.length 2 _) _ _ _=_
  rw [Qja]) hc.symm rfl hk (by omega) (by
  show OB.row (lzC (J3 ns k n).length 2 _) _ _ _=_;obtain ⟨h1,h2⟩:=Qrw ns k
  rw [Qja,h1,h2,List.flatMap_append,Qxq,List.append_assoc])
 rw [hl];rw [hl] at k0;exact k0
def lbN (ns:List (List Bool)) (n:List Bool):Nat:=ns.countP fun p=>ltB p n
structure BsI (ns:List (List Bool)) (n:List Bool) (lo hi:Nat):Prop where
 le:lo<=hi
 len:hi<=ns.length
 lt:∀ i,i < lo->ltB (ns.getD i []) n=true
 ge:∀ i,hi<=i->i < ns.length->ltB (ns.getD i []) n=false
theorem BsI.fin {ns:List (List Bool)} {n:List Bool} {lo:Nat} (h:BsI ns n lo lo):lbN ns n=lo:=by
 unfold lbN;rw [<- List.take_append_drop lo ns,List.countP_append]
 have h1:(ns.take lo).countP (fun p=>ltB p n)=lo:=by
  have:(ns.take lo).length=lo:=by rw [Qxr];have:=h.len;omega
  rw [List.countP_eq_length.2 (fun p hp=>?_),this];obtain ⟨i,hi,e⟩:=Qxt.1 hp;rw [List.getElem_take] at e;have:=h.lt i (by rw [Qxr] at hi;omega);rw [Qxo,Qxp (by rw [Qxr] at hi;omega)] at this;rw [<- e];exact this
 have h2:(ns.drop lo).countP (fun p=>ltB p n)=0:=by
  rw [List.countP_eq_zero];intro p hp;obtain ⟨i,hi,e⟩:=Qxt.1 hp;rw [List.getElem_drop] at e;rw [List.length_drop] at hi;have:=h.ge (lo+i) (by omega) (by omega);rw [Qxo,Qxp (by omega)] at this;rw [<- e];simpa using this
 rw [h1,h2];rfl
theorem QmY {l:List (List Bool)} (h:Y2 l) {i j:Nat} (hij:i < j) (hj:j < l.length):ltB (l.getD i []) (l.getD j [])=true:=by
 rw [Qxo,Qxo,Qxp hj,Qxp (by omega)];exact List.pairwise_iff_getElem.1 h i j (by omega) hj hij
theorem BsI.up {ns:List (List Bool)} {n:List Bool} {lo hi m:Nat} (h:BsI ns n lo hi) (hr:Y2 ns) (h1:lo<=m) (h2:m < hi) (hm:ltB (ns.getD m []) n=true):BsI ns n (m+1) hi :=
 ⟨h2,h.len,fun i hi2=>by
  by_cases e:i=m
  ·subst e;exact hm
  ·exact X0 (QmY hr (by omega) (by have:=h.len;omega)) hm,h.ge⟩
theorem BsI.dn {ns:List (List Bool)} {n:List Bool} {lo hi m:Nat} (h:BsI ns n lo hi) (hr:Y2 ns) (h1:lo<=m) (h2:m < hi) (hm:ltB (ns.getD m []) n=false):BsI ns n lo m :=
 ⟨h1,by have:=h.len;omega,h.lt,fun i h3 h4=>by
  by_cases e:i=m
  ·subst e;exact hm
  ·cases q:ltB (ns.getD i []) n with
   | false=>rfl
   | true=>rw [X0 (QmY hr (by omega) h4) q] at hm;cases hm⟩
theorem Qjc {p q:List Bool}:Vr p q < 0↔ltB p q=true:=by
 constructor
 ·intro h
  cases e:ltB p q with
  | true=>rfl
  | false =>
   exfalso;have a:¬ (QN p < QN q\/QN p=QN q/\p.length < q.length):=fun k=>by rw [Xq.2 k] at e;cases e
   unfold Vr at h;rw [QW,QW] at h;by_cases c:QN p=QN q
   ·have e1:V8 (QN p:Int) (QN q:Int)=0:=(if_neg (by omega)).trans (if_neg (by omega));rw [e1] at h;have h':V8 (p.length:Int) (q.length:Int) < 0:=h;unfold V8 at h';split at h'
    ·omega
    ·split at h' <;> omega
   ·have e1:V8 (QN p:Int) (QN q:Int)=1:=(if_neg (by omega)).trans (if_pos (by omega));rw [e1] at h;exact absurd (show (1:Int) < 0 from h) (by decide)
 ·intro h;rw [QaZ h];decide
theorem Qrx {lo hi:Nat} (h:lo+hi<=2000000):IntKind.i64.wrap (((QlO (UInt64.ofNat ((((lo:Int)+(hi:Int)) % 18446744073709551616).toNat)) (1:Int).toNat).toNat:Nat):Int)=(((lo+hi) / 2:Nat):Int):=by
 have e:(((lo:Int)+(hi:Int)) % 18446744073709551616).toNat=lo+hi:=by omega
 rw [e]
 have e2:(QlO (UInt64.ofNat (lo+hi)) (1:Int).toNat).toNat=(lo+hi) / 2:=by
  unfold QlO;rw [show 2 ^ min (1:Int).toNat 64=2 from rfl,Qxu,Qxu,Nat.mod_eq_of_lt (a:=lo+hi) (by omega),Nat.mod_eq_of_lt (by omega)]
 rw [e2];have:=IntKind.wrap_i64 ((((lo+hi) / 2:Nat)):Int);omega
def bsF (ns:List (List Bool)) (n:List Bool):Bool:=decide (lbN ns n < ns.length) && decide (Vr (ns.getD (lbN ns n) []) n=0)
theorem QwT {ns:List (List Bool)} {n:List Bool} {k:Nat} (h:lbN ns n=k):(decide ((k:Int) < (ns.length:Int)) && decide (Vr (ns.getD k []) n=0))=bsF ns n:=by
 subst h;unfold bsF;congr 1;exact decide_eq_decide.2 (by omega)
theorem Jw {ns:List (List Bool)} {n:List Bool} (hl:ns.length<=1000) (hr:Y2 ns):Cf Tryz.prog 158 [(0,.rz ns.length 2 (fun i j=>Qz (ns.getD i []) j) 36 0)] [.osl 0 ns.length,We n,.v (.func (.func 107) #[] #[])] [(0,.rz ns.length 2 (fun i j=>Qz (ns.getD i []) j) 36 0)] (.tup [.i (lbN ns n:Int),.b (bsF ns n)]):=by
 refine QJ {} Tryz.func158 Tryz.ntmps158 ?_;refine ⟨Nat×Nat,fun s=>⟨[(0,.osl 0 ns.length),(2,.v (.func (.func 107) #[] #[])),(4,.own 1004 0),(8,.i (ns.length:Int)),(9,.i (s.1:Int)),(10,.i (s.2:Int))],[(0,.rz ns.length 2 (fun i j=>Qz (ns.getD i []) j) 36 0),(1004,.box [.u32 (adr n),.i (n.length:Int)] 36)]⟩,fun s=>BsI ns n s.1 s.2,fun s=>s.2 - s.1,(0,ns.length),⟨Nat.zero_le _,Nat.le_refl _,fun i hi=>absurd hi (Nat.not_lt_zero _),fun i h1 h2=>absurd h2 (by omega)⟩,?_,fun s hx1=>?_⟩
 ·skip
  repeat refine o7 ?_
  trivial
 refine ⟨fun h1=>?_,fun h1=>?_⟩
 ·skip
  have c1:=h1
  (simp only [bsX] at c1)
  have hlt:s.1 < s.2:=by omega
  have hle:=hx1.len;have hmid:=Qrx (lo:=s.1) (hi:=s.2) (by omega);have hmt:=congrArg Int.toNat hmid;rw [Int.toNat_natCast] at hmt
  repeat refine o4 ?_
  refine ⟨[0,0,0,6,14,0,63,127],by kernel_rfl,?_⟩
  repeat refine o4 ?_
  refine clX (ZL (p:=ns.getD ((s.1+s.2) / 2) []) (q:=n)) ?_
  repeat (refine Ob.mk ?_ ?_;focus (first | (rw [hmt];done) | (exact Eq.refl _)))
  refine ⟨fun h2=>?_,fun h2=>?_⟩
  ·skip
   have c2:=h2
   (simp only [bsX] at c2)
   have hz1:(if Vr (ns.getD ((s.1+s.2) / 2) []) n < 0 then (s.1+s.2) / 2+1 else s.1)=(s.1+s.2) / 2+1:=if_pos c2;have hz2:(if Vr (ns.getD ((s.1+s.2) / 2) []) n < 0 then s.2 else (s.1+s.2) / 2)=s.2:=if_pos c2;have hnx:BsI ns n (if Vr (ns.getD ((s.1+s.2) / 2) []) n < 0 then (s.1+s.2) / 2+1 else s.1) (if Vr (ns.getD ((s.1+s.2) / 2) []) n < 0 then s.2 else (s.1+s.2) / 2):=by rw [hz1,hz2];exact hx1.up hr (m:=(s.1+s.2) / 2) (by omega) (by omega) (Qjc.1 c2)
   repeat refine o4 ?_
   refine Qt (if Vr (ns.getD ((s.1+s.2) / 2) []) n < 0 then (s.1+s.2) / 2+1 else s.1,if Vr (ns.getD ((s.1+s.2) / 2) []) n < 0 then s.2 else (s.1+s.2) / 2) ?_
   repeat refine o7 ?_
   trivial
  ·skip
   have c2:=h2
   (simp only [bsX] at c2)
   have hz1:(if Vr (ns.getD ((s.1+s.2) / 2) []) n < 0 then (s.1+s.2) / 2+1 else s.1)=s.1:=if_neg c2;have hz2:(if Vr (ns.getD ((s.1+s.2) / 2) []) n < 0 then s.2 else (s.1+s.2) / 2)=(s.1+s.2) / 2:=if_neg c2;have hnx:BsI ns n (if Vr (ns.getD ((s.1+s.2) / 2) []) n < 0 then (s.1+s.2) / 2+1 else s.1) (if Vr (ns.getD ((s.1+s.2) / 2) []) n < 0 then s.2 else (s.1+s.2) / 2):=by rw [hz1,hz2];exact hx1.dn hr (m:=(s.1+s.2) / 2) (by omega) (by omega) (by cases q:ltB (ns.getD ((s.1+s.2) / 2) []) n;rfl;exact absurd (Qjc.2 q) c2)
   refine Qt (if Vr (ns.getD ((s.1+s.2) / 2) []) n < 0 then (s.1+s.2) / 2+1 else s.1,if Vr (ns.getD ((s.1+s.2) / 2) []) n < 0 then s.2 else (s.1+s.2) / 2) ?_
   repeat refine o79 ?_
   trivial
 ·skip
  have c1:=h1
  (simp only [bsX] at c1)
  have hfin:lbN ns n=s.1:=by have h:BsI ns n s.1 s.2:=hx1;have e:s.2=s.1:=(by have:=h.le;omega);rw [e] at h;exact h.fin
  refine ⟨[0,0,0,6,14,30,30,30,222,478,30,2046,4094,8190,4095,32767],by kernel_rfl,?_⟩
  repeat refine o80 ?_
  refine gx2 (ZL (p:=ns.getD s.1 []) (q:=n)) (fun hk=>⟨fun _=>hk,?_⟩)
  repeat (refine Ob.mk ?_ ?_;focus (first | (exact QwT hfin) | (exact Eq.refl _) | (intro _;exact Eq.refl _) | omega | (exact fun hg=>ZQ hg) | (exact fun hg=>hg) | (intro hg;((intro hq;((simp_all;done)))))))
  trivial
end
end Go.Proofs.YtcebndkiagbddaaGreatDoor
