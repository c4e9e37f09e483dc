/- A part of the proof: contracts of functions and what they stand on. Written shorter and merged by a program (pack.py). -/
import Derived.Test.YtcebndkiagbddaaGreatDoorK35
import Derived.Test.YtcebndkiagbddaaGreatDoorK34
set_option linter.unusedVariables false
set_option linter.unusedSimpArgs false
set_option maxRecDepth 100000
set_option maxHeartbeats 4000000
open List renaming getD_eq_getElem?_getD -> Qxo, getElem?_eq_getElem -> Qxp, length_take -> Qxq, mem_iff_getElem -> Qxr, length_cons -> Qxw
namespace Go.Proofs.YtcebndkiagbddaaGreatDoor
section
open Go.RowKit Tr
theorem Qut {T:Tr} {n:List Bool} {o:List UInt8} (w:T.wf) (hn:n.length<=32) (ho:o≠[]) (h1:T.flat.length<=1000) (h2:(W4 T n o).flat.length<=1002):Cf Tryz.prog 56 [] [Qj T.flat,We n,.s o] [] (.tup [Qj (W4 T n o).flat,.i 0]):=by
 refine QJ {} Tryz.func56 Tryz.ntmps56 ?_;refine clX (QgG w (by omega)) ?_
 repeat refine o10 ?_
 refine ⟨fun h1=>?_,fun h1=>?_⟩
 ·skip
  (simp only [Int.reduceToNat,UInt8.reduceOfNat] at h1)
  have c1:=h1
  (simp only [bsX] at c1)
  exact absurd (show false=true from h1) (by decide)
 ·skip
  (simp only [Int.reduceToNat,UInt8.reduceOfNat] at h1)
  have c1:=h1
  (simp only [bsX] at c1)
  refine clX (Wh hn) ?_
  repeat refine o0 ?_
  refine ⟨fun h2=>?_,fun h2=>?_⟩
  ·skip
   (simp only [Int.reduceToNat,UInt8.reduceOfNat] at h2)
   have c2:=h2
   (simp only [bsX] at c2)
   exact absurd (show false=true from h2) (by decide)
  ·skip
   (simp only [Int.reduceToNat,UInt8.reduceOfNat] at h2)
   have c2:=h2
   (simp only [bsX] at c2)
   refine ⟨fun h3=>?_,fun h3=>?_⟩
   ·skip
    have c3:=h3
    (simp only [bsX] at c3)
    exact absurd h3 (by simp [ho])
   ·skip
    have c3:=h3
    (simp only [bsX] at c3)
    refine ⟨[0,1,0,0,15,31,63,127,255],by kernel_rfl,?_⟩;refine clX (QmB w (by omega)) ?_
    repeat refine o10 ?_
    refine clX (QkN (o:=o) w hn) ?_
    repeat refine o0 ?_
    refine clX (QgC (T:=W4 T n o) (by omega)) ?_
    repeat refine o0 ?_
    refine clX (QkH (L:=(W4 T n o).flat) (by omega)) ?_
    repeat refine o10 ?_
    trivial
theorem QwG {T:Tr} {n:List Bool} {o:List UInt8} (w:T.wf) (hn:n.length<=32) (ho:o≠[]) (h1:T.flat.length<=1000):Cf Tryz.prog 56 [] [Qj T.flat,We n,.s o] [] (.tup [Qj (W4 T n o).flat,.i 0]) :=
 Qut w hn ho h1 (by have:=QaT (T:=T) (n:=n) (o:=o);omega)
end
section
open Go.RowKit
abbrev cbK (a b:List UInt8):Int:=Go.Lib.compareBytes a b
theorem X4:∀ {a b c:List UInt8},cbK a b < 0->cbK b c < 0->cbK a c < 0
 | [],[],_,h,_=>absurd (show (0:Int) < 0 from h) (by decide)
 | [],_::_,[],_,h=>absurd (show (1:Int) < 0 from h) (by decide)
 | [],_::_,_::_,_,_=>(by decide:(-1:Int) < 0)
 | _::_,[],_,h,_=>absurd (show (1:Int) < 0 from h) (by decide)
 | _::_,_::_,[],_,h=>absurd (show (1:Int) < 0 from h) (by decide)
 | a::xs,b::ys,c::zs,h,k=>by
  have h1:(if a < b then (-1:Int) else if b < a then 1 else cbK xs ys) < 0:=h;have k1:(if b < c then (-1:Int) else if c < b then 1 else cbK ys zs) < 0:=k;show (if a < c then (-1:Int) else if c < a then 1 else cbK xs zs) < 0;have lt:∀ x y:UInt8,x < y↔x.toNat < y.toNat:=fun x y=>UInt8.lt_iff_toNat_lt;simp only [lt] at h1 k1 ⊢;by_cases e1:a.toNat < b.toNat
  ·by_cases e2:b.toNat < c.toNat
   ·rw [if_pos (by omega)];decide
   ·rw [if_neg e2] at k1;by_cases e3:c.toNat < b.toNat
    ·rw [if_pos e3] at k1;exact absurd k1 (by decide)
    ·rw [if_pos (by omega)];decide
  ·rw [if_neg e1] at h1;by_cases e2:b.toNat < a.toNat
   ·rw [if_pos e2] at h1;exact absurd h1 (by decide)
   ·rw [if_neg e2] at h1;by_cases e3:b.toNat < c.toNat
    ·rw [if_pos (by omega)];decide
    ·rw [if_neg e3] at k1;by_cases e4:c.toNat < b.toNat
     ·rw [if_pos e4] at k1;exact absurd k1 (by decide)
     ·rw [if_neg e4] at k1;rw [if_neg (by omega),if_neg (by omega)];exact X4 h1 k1
theorem Qon {a b:List UInt8}:Cf Tryz.prog 155 [] [.s a,.s b] [] (.i (cbK a b)) :=
 Cf.of (by kernel_rfl) fun w Pub φ vs hp hR=>by
  obtain ⟨u,v,rfl,h1,h2⟩:=ra2 hR;have e1:=Ya h1;have e2:=Ya h2;subst e1 e2;exact (Tryz.strings_Compare ⟨⟨a⟩⟩ ⟨⟨b⟩⟩ w).mono fun e w' k=>⟨k.1,by rw [k.2];exact Below.refl _ _⟩
theorem Qjd {p:PeerS} {k:List UInt8}:Cf Tryz.prog 154 [] [QmM p,.s k] [] (.i (cbK p.k k)):=by
 refine Qr {} Tryz.func154 Tryz.ntmps154 ?_;refine clX (Qon (a:=p.k) (b:=k)) ?_
 repeat refine o0 ?_
 trivial
def lbP (ps:List PeerS) (k:List UInt8):Nat:=ps.countP fun p=>decide (cbK p.k k < 0)
def Z3 (ps:List PeerS):Prop:=ps.Pairwise fun p q=>cbK p.k q.k < 0
structure BpI (ps:List PeerS) (k:List UInt8) (lo hi:Nat):Prop where
 le:lo<=hi
 len:hi<=ps.length
 lt:∀ i,i < lo->cbK (ps.getD i Qa).k k < 0
 ge:∀ i,hi<=i->i < ps.length->¬ cbK (ps.getD i Qa).k k < 0
theorem BpI.fin {ps:List PeerS} {k:List UInt8} {lo:Nat} (h:BpI ps k lo lo):lbP ps k=lo:=by
 unfold lbP;rw [<- List.take_append_drop lo ps,List.countP_append]
 have h1:(ps.take lo).countP (fun p=>decide (cbK p.k k < 0))=lo:=by
  have:(ps.take lo).length=lo:=by rw [Qxq];have:=h.len;omega
  rw [List.countP_eq_length.2 (fun p hp=>?_),this];obtain ⟨i,hi,e⟩:=Qxr.1 hp;rw [List.getElem_take] at e;have:=h.lt i (by rw [Qxq] at hi;omega);rw [Qxo,Qxp (by rw [Qxq] at hi;omega)] at this;rw [<- e];exact decide_eq_true this
 have h2:(ps.drop lo).countP (fun p=>decide (cbK p.k k < 0))=0:=by
  rw [List.countP_eq_zero];intro p hp;obtain ⟨i,hi,e⟩:=Qxr.1 hp;rw [List.getElem_drop] at e;rw [List.length_drop] at hi;have:=h.ge (lo+i) (by omega) (by omega);rw [Qxo,Qxp (by omega)] at this;rw [<- e];simpa using this
 rw [h1,h2];rfl
theorem Qry {l:List PeerS} (h:Z3 l) {i j:Nat} (hij:i < j) (hj:j < l.length):cbK (l.getD i Qa).k (l.getD j Qa).k < 0:=by
 rw [Qxo,Qxo,Qxp hj,Qxp (by omega)];exact List.pairwise_iff_getElem.1 h i j (by omega) hj hij
theorem BpI.up {ps:List PeerS} {k:List UInt8} {lo hi m:Nat} (h:BpI ps k lo hi) (hr:Z3 ps) (h1:lo<=m) (h2:m < hi) (hm:cbK (ps.getD m Qa).k k < 0):BpI ps k (m+1) hi :=
 ⟨h2,h.len,fun i hi2=>by
  by_cases e:i=m
  ·subst e;exact hm
  ·exact X4 (Qry hr (by omega) (by have:=h.len;omega)) hm,h.ge⟩
theorem BpI.dn {ps:List PeerS} {k:List UInt8} {lo hi m:Nat} (h:BpI ps k lo hi) (hr:Z3 ps) (h1:lo<=m) (h2:m < hi) (hm:¬ cbK (ps.getD m Qa).k k < 0):BpI ps k lo m :=
 ⟨h1,by have:=h.len;omega,h.lt,fun i h3 h4 q=>by
  by_cases e:i=m
  ·subst e;exact hm q
  ·exact hm (X4 (Qry hr (by omega) h4) q)⟩
def bpF (ps:List PeerS) (k:List UInt8):Bool:=decide (lbP ps k < ps.length) && decide (cbK (ps.getD (lbP ps k) Qa).k k=0)
theorem QwU {ps:List PeerS} {n:List UInt8} {k:Nat} (h:lbP ps n=k):(decide ((k:Int) < (ps.length:Int)) && decide (cbK (ps.getD k Qa).k n=0))=bpF ps n:=by
 subst h;unfold bpF;congr 1;exact decide_eq_decide.2 (by omega)
theorem QuK {ps:List PeerS} {k:List UInt8} (hl:ps.length<=1000) (hr:Z3 ps):Cf Tryz.prog 153 [(0,.rz ps.length 5 (fun i j=>Qe (ps.getD i Qa) j) 33 0)] [.osl 0 ps.length,.s k,.v (.func (.func 154) #[] #[])] [(0,.rz ps.length 5 (fun i j=>Qe (ps.getD i Qa) j) 33 0)] (.tup [.i (lbP ps k:Int),.b (bpF ps k)]):=by
 refine Qr {} Tryz.func153 Tryz.ntmps153 ?_;refine ⟨Nat×Nat,fun s=>⟨[(0,.osl 0 ps.length),(1,.s k),(2,.v (.func (.func 154) #[] #[])),(8,.i (ps.length:Int)),(9,.i (s.1:Int)),(10,.i (s.2:Int))],[(0,.rz ps.length 5 (fun i j=>Qe (ps.getD i Qa) j) 33 0)]⟩,fun s=>BpI ps k s.1 s.2,fun s=>s.2 - s.1,(0,ps.length),⟨Nat.zero_le _,Nat.le_refl _,fun i hi=>absurd hi (Nat.not_lt_zero _),fun i h1 h2=>absurd h2 (by omega)⟩,?_,fun s hx1=>?_⟩
 ·skip
  repeat refine o7 ?_
  trivial
 refine ⟨fun h1=>?_,fun h1=>?_⟩
 ·skip
  have c1:=h1
  (simp only [bsX] at c1)
  have hlt:s.1 < s.2:=by omega
  have hle:=hx1.len;have hmid:=Qrx (lo:=s.1) (hi:=s.2) (by omega);have hmt:=congrArg Int.toNat hmid;rw [Int.toNat_natCast] at hmt
  repeat refine o4 ?_
  refine clX (Qjd (p:=ps.getD ((s.1+s.2) / 2) Qa) (k:=k)) ?_
  repeat (refine Ob.mk ?_ ?_;focus (first | (rw [hmt];done) | (exact Eq.refl _) | (intro hg;((intro hq;((simp_all;done)))))))
  refine ⟨fun h2=>?_,fun h2=>?_⟩
  ·skip
   have c2:=h2
   (simp only [bsX] at c2)
   have hz1:(if cbK (ps.getD ((s.1+s.2) / 2) Qa).k k < 0 then (s.1+s.2) / 2+1 else s.1)=(s.1+s.2) / 2+1:=if_pos c2;have hz2:(if cbK (ps.getD ((s.1+s.2) / 2) Qa).k k < 0 then s.2 else (s.1+s.2) / 2)=s.2:=if_pos c2;have hnx:BpI ps k (if cbK (ps.getD ((s.1+s.2) / 2) Qa).k k < 0 then (s.1+s.2) / 2+1 else s.1) (if cbK (ps.getD ((s.1+s.2) / 2) Qa).k k < 0 then s.2 else (s.1+s.2) / 2):=by rw [hz1,hz2];exact hx1.up hr (m:=(s.1+s.2) / 2) (by omega) (by omega) c2
   repeat refine o4 ?_
   refine Qt (if cbK (ps.getD ((s.1+s.2) / 2) Qa).k k < 0 then (s.1+s.2) / 2+1 else s.1,if cbK (ps.getD ((s.1+s.2) / 2) Qa).k k < 0 then s.2 else (s.1+s.2) / 2) ?_
   repeat refine o7 ?_
   trivial
  ·skip
   have c2:=h2
   (simp only [bsX] at c2)
   have hz1:(if cbK (ps.getD ((s.1+s.2) / 2) Qa).k k < 0 then (s.1+s.2) / 2+1 else s.1)=s.1:=if_neg c2;have hz2:(if cbK (ps.getD ((s.1+s.2) / 2) Qa).k k < 0 then s.2 else (s.1+s.2) / 2)=(s.1+s.2) / 2:=if_neg c2;have hnx:BpI ps k (if cbK (ps.getD ((s.1+s.2) / 2) Qa).k k < 0 then (s.1+s.2) / 2+1 else s.1) (if cbK (ps.getD ((s.1+s.2) / 2) Qa).k k < 0 then s.2 else (s.1+s.2) / 2):=by rw [hz1,hz2];exact hx1.dn hr (m:=(s.1+s.2) / 2) (by omega) (by omega) c2
   refine Qt (if cbK (ps.getD ((s.1+s.2) / 2) Qa).k k < 0 then (s.1+s.2) / 2+1 else s.1,if cbK (ps.getD ((s.1+s.2) / 2) Qa).k k < 0 then s.2 else (s.1+s.2) / 2) ?_
   repeat refine o79 ?_
   trivial
 ·skip
  have c1:=h1
  (simp only [bsX] at c1)
  have hfin:lbP ps k=s.1:=by have h:BpI ps k s.1 s.2:=hx1;have e:s.2=s.1:=(by have:=h.le;omega);rw [e] at h;exact h.fin
  repeat refine o80 ?_
  refine gx2 (Qjd (p:=ps.getD s.1 Qa) (k:=k)) (fun hk=>⟨fun _=>hk,?_⟩)
  repeat (refine Ob.mk ?_ ?_;focus (first | (exact QwU hfin) | (exact Eq.refl _) | (intro _;exact Eq.refl _) | omega | (exact fun hg=>ZQ hg) | (exact fun hg=>hg) | (intro hg;((intro hq;((simp_all;done)))))))
  trivial
end
end Go.Proofs.YtcebndkiagbddaaGreatDoor
