/- A part of the proof: contracts of functions and what they stand on. Written shorter and merged by a program (pack.py). -/
import Derived.Test.YtcebndkiagbddaaGreatDoorK8
set_option linter.unusedVariables false
set_option linter.unusedSimpArgs false
set_option maxRecDepth 100000
set_option maxHeartbeats 4000000
open Bool renaming and_eq_true → Qy3
open Nat renaming beq → Qy4, succ_mul → Qy9, blt → Qza, ble_eq → Qzc, mul_le_mul_right → Qze, ble → Qzf, div_lt_iff_lt_mul → Qzi, mul_comm → Qzj, blt_eq → Qzm, div_add_mod → Qzo, eq_zero_or_pos → Qzr, le_div_iff_mul_le → Qzz, eq_of_beq_eq_true → QzA, mod_lt → QzB, div_lt_of_lt_mul → QzC, zero_add → QzF, zero_mul → QzG
open List renaming getElem?_eq_none → Qy5, length_cons → Qy6, getElem?_map → Qy7, getD_eq_getElem?_getD → Qy8, map_cons → Qzb, ext_getElem? → Qzd, getElem?_eq_getElem → Qzg, mem_range → Qzh, mem_cons_of_mem → Qzk, length_nil → Qzl, getElem?_set_self → Qzn, getElem?_set_ne → Qzp, range → Qzq, getElem?_take → Qzs, cons_append → Qzt, getElem?_cons_succ → Qzu, getElem?_cons_zero → Qzv, length_map → Qzx, take_of_length_le → Qzy, getElem?_range → QzD, map_congr_left → QzE
open Option renaming map_some → Qzw
namespace Go.Proofs.YtcebndkiagbddaaGreatDoor
section
open Go.RowKit
section
variable {P:Program} {E:Env} {kp:List Nat} {n:Nat} {ops:Array Oper} {d:Nat} {ty:TypeId} {ps:String} {af:Array Edge}
variable {tab:TT} {vs:List (Nat×EV)} {bs:List (Nat×EB)} {st:ES}
theorem Qaz:∀ (l:List EV),Q6 l=true→shL l=true→AV.toPs (avL l)=some (pvL l)
 | [],_,_=>rfl
 | x::xs,h,k=>by
  simp only [Q6,shL,Qy3] at h k
  have e:x.av=.p x.pv:=by
   cases x <;> simp [YF] at h <;> simp [EV.sh] at k <;> simp [EV.av,EV.pv]
  simp only [avL,pvL,e,AV.toPs,Qaz xs h.2 k.2,Qzw]
theorem QmV {x:EV} (h:YF x=true) (k:x.sh=true):x.av=.p x.pv:=by
 cases x <;> simp [YF] at h <;> simp [EV.sh] at k <;> simp [EV.av,EV.pv]
theorem cs1 {x:EV} (h:YF x=true):x.av.cs=[x.av]:=by
 cases x with
 | rp t=>cases t <;> rfl
 | _=>simp [YF] at h <;> simp [EV.av,EV.pv,AV.cs,ZD]
theorem QfO {m:Nat} {g:Nat→EV} (h:∀ i,i < m→YF (g i)=true) (k:∀ i,i < m→(g i).sh=true):ZN ((azC m g).map AV.p)=true:=by
 have key:∀ (l:List Nat),(∀ i∈l,YF (g i)=true∧(g i).sh=true)→ZN ((l.map fun i=>(g i).pv).map AV.p)=true:=by
  intro l
  induction l with
  | nil=>intro _;rfl
  | cons a l ih =>
   intro hl;obtain ⟨h1,h2⟩:=hl a (by simp);simp only [Qzb,ZN,Qy3];exact ⟨by rw [← QmV h1 h2];exact QmU _ h1,ih fun i hi=>hl i (Qzk _ hi)⟩
 exact key _ fun i hi=>⟨h i (Qzh.1 hi),k i (Qzh.1 hi)⟩
theorem JI {α:Type} {l m:List α} (h:m.length=l.length):QD l 0 m=m:=by
 rw [Qhn m l (by omega),List.drop_of_length_le (by omega),List.append_nil]
theorem QvC {m o:Nat} {f:Nat→EV} {y:EV} (h:o < m):((azC m f).map AV.p).set o (.p y.pv)=(azC m (fun a=>bif Qy4 a o then y else f a)).map AV.p:=by
 apply Qzd;intro q;rw [List.getElem?_set];by_cases e:o=q
 ·subst e;rw [if_pos rfl,Qy7,QiO h,if_pos (by simpa using h)];simp
 ·rw [if_neg e];simp only [azC,List.map_map,Qy7];by_cases hq:q < m
  ·rw [QzD hq]
   have:Qy4 q o=false:=by
    cases hb:Qy4 q o with
    | false=>rfl
    | true=>exact absurd (Qe hb).symm e
   simp [this]
  ·rw [Qy5 (by simp;omega)];rfl
theorem QxZ {m s i off:Nat} {f:Nat→Nat→EV} {l:List EV} (hi:i < m) (hl:off+l.length≤s) (h1:1≤l.length):QD (lzC m s f) (i * s+off) (pvL l)=lzC m s (stZ f i off l):=by
 have hin:i * s+off+l.length≤m * s:=by
  have:(i+1) * s≤m * s:=Qze _ hi;rw [Qy9] at this;omega
 apply Qzd;intro k;by_cases hk:k < m * s
 ·have hs:0 < s:=by omega
  have hb:k % s < s:=QzB _ hs;have ha:k / s < m:=(Qzi hs).2 hk;have e:k / s * s+k % s=k:=by rw [Qzj];exact Qzo k s
  have g1:=XG m s f ha hb;have g2:=XG m s (stZ f i off l) ha hb;rw [e] at g1 g2;rw [g2]
  have key:∀ (xs:List PV) (q:List PV) (o:Nat),o+xs.length≤q.length→(QD q o xs)[k]? = if o≤k∧k < o+xs.length then xs[k - o]? else q[k]?:=by
   intro xs
   induction xs with
   | nil=>intro q o _;rw [if_neg (by simp only [Qzl];omega)];rfl
   | cons x xs ih =>
    intro q o ho;rw [Qy6] at ho;show (QD (q.set o x) (o+1) xs)[k]? = _;rw [ih (q.set o x) (o+1) (by rw [List.length_set];omega),Qy6];by_cases h1:o+1≤k∧k < o+1+xs.length
    ·rw [if_pos h1,if_pos (by omega),show k - o=(k - (o+1))+1 from by omega,Qzu]
    ·rw [if_neg h1];by_cases h2:k=o
     ·subst h2;rw [if_pos (by omega),Nat.sub_self,Qzv,Qzn (by omega)]
     ·rw [if_neg (by omega),Qzp (by omega)]
  rw [key (pvL l) _ _ (by rw [WX,Qu];exact hin),Qu]
  have hif:(i * s+off≤k∧k < i * s+off+l.length)↔(k / s=i∧off≤k % s∧k % s < off+l.length):=by
   constructor
   ·rintro ⟨q1,q2⟩
    have d:k / s=i:=by
     apply Nat.le_antisymm
     ·exact Nat.le_of_lt_succ ((Qzi hs).2 (by rw [Qy9];omega))
     ·exact (Qzz hs).2 (by omega)
    rw [d] at e;exact ⟨d,by omega,by omega⟩
   ·rintro ⟨d,q1,q2⟩;rw [d] at e;exact ⟨by omega,by omega⟩
  by_cases hq:i * s+off≤k∧k < i * s+off+l.length
  ·rw [if_pos hq];obtain ⟨d,q1,q2⟩:=hif.1 hq
   have c:(Qy4 (k / s) i && (Qzf off (k % s) && Qza (k % s) (off+l.length)))=true:=by
    simp [d,Qzc,Qzm,q1,q2]
   unfold stZ;rw [c,cond_true];rw [d] at e;rw [show k - (i * s+off)=k % s - off from by omega,Qbc,Qy8,Qzg (by omega)];rfl
  ·rw [if_neg hq,g1]
   have c:(Qy4 (k / s) i && (Qzf off (k % s) && Qza (k % s) (off+l.length)))=false:=by
    cases hc:(Qy4 (k / s) i && (Qzf off (k % s) && Qza (k % s) (off+l.length))) with
    | false=>rfl
    | true =>
     simp only [Qy3,Qzc,Qzm] at hc;exact absurd (hif.2 ⟨QzA hc.1,hc.2.1,hc.2.2⟩) hq
   unfold stZ;rw [c,cond_false]
 ·rw [Qy5 (by rw [Zj,WX];omega),Qy5 (by rw [WX];omega)]
theorem Qht {w:World} {Pub Pub':Nat→Nat→Prop} {ψ ψ':Qt} {f g:Nat×Nat→EV}:∀ (ps:List (Nat×Nat)) (us:List Value),(∀ p∈ps,∀ u,RA w Pub ψ (f p).av u→RA w Pub' ψ' (g p).av u)→RAs w Pub ψ (ps.map fun p=>(f p).av) us→RAs w Pub' ψ' (ps.map fun p=>(g p).av) us
 | [],us,_,h=>by simp only [List.map_nil] at h ⊢;unfold RAs at h ⊢;exact h
 | p::ps,us,hp,h=>by
  simp only [Qzb] at h ⊢;unfold RAs at h ⊢;obtain ⟨u,vs,e,k1,k2⟩:=h;exact ⟨u,vs,e,hp p (by simp) u k1,Qht ps vs (fun q hq=>hp q (Qzk _ hq)) k2⟩
theorem Qp4 (n sz:Nat) (f:Nat→Nat→EV):avC n sz f=((Qzq n).flatMap fun i=>(Qzq sz).map fun j=>(i,j)).map fun p=>(f p.1 p.2).av:=by
 rw [List.map_flatMap];simp [avC,Function.comp_def]
theorem QfP {w:World} {Pub Pub':Nat→Nat→Prop} {ψ ψ':Qt} {n sz:Nat} {f g:Nat→Nat→EV} {us:List Value} (h:∀ i,i < n → ∀ j,j < sz → ∀ u,RA w Pub ψ (f i j).av u→RA w Pub' ψ' (g i j).av u) (k:RAs w Pub ψ (avC n sz f) us):RAs w Pub' ψ' (avC n sz g) us:=by
 rw [Qp4] at k ⊢;refine Qht (f:=fun p=>f p.1 p.2) (g:=fun p=>g p.1 p.2) _ _ (fun p hp u hu=>?_) k;rw [List.mem_flatMap] at hp;obtain ⟨i,hi,hp⟩:=hp;rw [List.mem_map] at hp;obtain ⟨j,hj,rfl⟩:=hp;exact h i (Qzh.1 hi) j (Qzh.1 hj) u hu
theorem Qkx {α:Type}:∀ (xs q:List α) (o k:Nat),o+xs.length≤q.length→(QD q o xs)[k]? = if o≤k∧k < o+xs.length then xs[k - o]? else q[k]?
 | [],q,o,k,_=>by rw [if_neg (by simp only [Qzl];omega)];rfl
 | x::xs,q,o,k,ho=>by
  rw [Qy6] at ho;show (QD (q.set o x) (o+1) xs)[k]? = _;rw [Qkx xs (q.set o x) (o+1) k (by rw [List.length_set];omega),Qy6];by_cases h1:o+1≤k∧k < o+1+xs.length
  ·rw [if_pos h1,if_pos (by omega),show k - o=(k - (o+1))+1 from by omega,Qzu]
  ·rw [if_neg h1];by_cases h2:k=o
   ·subst h2;rw [if_pos (by omega),Nat.sub_self,Qzv,Qzn (by omega)]
   ·rw [if_neg (by omega),Qzp (by omega)]
theorem QvD {m s i off:Nat} {f:Nat→Nat→EV} {l:List EV} (hi:i < m) (h0:off+l.length≤s):QD (avC m s f) (i * s+off) (avL l)=avC m s (stZ f i off l):=by
 have hin:i * s+off+l.length≤m * s:=by
  have:(i+1) * s≤m * s:=Qze _ hi;rw [Qy9] at this;omega
 apply Qzd;intro k;rw [Qkx _ _ _ _ (by rw [Xa,QJ];exact hin),QJ];by_cases hk:k < m * s
 ·have hs:0 < s:=by
   rcases Qzr s with e | e
   ·subst e;simp at hk
   ·exact e
  have hb:k % s < s:=QzB _ hs;have ha:k / s < m:=(Qzi hs).2 hk;have e:k / s * s+k % s=k:=by rw [Qzj];exact Qzo k s
  have g1:=QiP m s (fun a b=>(f a b).av) ha hb;have g2:=QiP m s (fun a b=>(stZ f i off l a b).av) ha hb;rw [e] at g1 g2;rw [g2]
  have hif:(i * s+off≤k∧k < i * s+off+l.length)↔(k / s=i∧off≤k % s∧k % s < off+l.length):=by
   constructor
   ·rintro ⟨q1,q2⟩
    have d:k / s=i:=by
     apply Nat.le_antisymm
     ·exact Nat.le_of_lt_succ ((Qzi hs).2 (by rw [Qy9];omega))
     ·exact (Qzz hs).2 (by omega)
    rw [d] at e;exact ⟨d,by omega,by omega⟩
   ·rintro ⟨d,q1,q2⟩;rw [d] at e;exact ⟨by omega,by omega⟩
  by_cases hq:i * s+off≤k∧k < i * s+off+l.length
  ·rw [if_pos hq];obtain ⟨d,q1,q2⟩:=hif.1 hq
   have c:(Qy4 (k / s) i && (Qzf off (k % s) && Qza (k % s) (off+l.length)))=true:=by
    simp [d,Qzc,Qzm,q1,q2]
   unfold stZ;rw [c,cond_true];rw [d] at e;rw [show k - (i * s+off)=k % s - off from by omega,ZO,Qy7,Qy8,Qzg (by omega)];rfl
  ·rw [if_neg hq,g1]
   have c:(Qy4 (k / s) i && (Qzf off (k % s) && Qza (k % s) (off+l.length)))=false:=by
    cases hc:(Qy4 (k / s) i && (Qzf off (k % s) && Qza (k % s) (off+l.length))) with
    | false=>rfl
    | true =>
     simp only [Qy3,Qzc,Qzm] at hc;exact absurd (hif.2 ⟨QzA hc.1,hc.2.1,hc.2.2⟩) hq
   unfold stZ;rw [c,cond_false]
 ·rw [if_neg (by omega),Qy5 (by rw [Xa];omega),Qy5 (by rw [Xa];omega)]
theorem Qsr {i q:Nat} {x:EV} {ns:List Nat} (h:noL i x) {w:World} {Pub:Nat→Nat→Prop} {φ:Qt} {u:Value} (k:RA w Pub (loc φ ns) x.av u):RA w Pub (loc φ (ns.set i q)) x.av u:=by
 cases x
 case osl j m =>
  have hj:j≠i:=h;have e:loc φ (ns.set i q) j=loc φ ns j:=by unfold loc;rw [Qzp (Ne.symm hj)]
  unfold EV.av RA at k ⊢;rw [e];exact k
 all_goals exact (Je _ u h).2 ((Je _ u h).1 k)
theorem Qss {w:World} {Pub:Nat→Nat→Prop} {ψ ψ':Qt} {n s i off:Nat} {f:Nat→Nat→EV} {l:List EV} {vs us:List Value} (hi:i < n) (ho:off+l.length≤s) (h1:RAs w Pub ψ (avC n s f) vs)
  (h2:∀ a,a < n → ∀ b,b < s→(a=i∧off≤b∧b < off+l.length) ∨ ∀ u,RA w Pub ψ (f a b).av u→RA w Pub ψ' (f a b).av u) (h3:RAs w Pub ψ' (avL l) us):RAs w Pub ψ' (avC n s (stZ f i off l)) (QD vs (i * s+off) us):=by
 have h4:RAs w Pub ψ' (avC n s (stZ f i off (l.map fun _=>.any))) vs:=QfP (fun a ha b hb u k=>by
  unfold stZ
  cases hc:(Qy4 a i && (Qzf off b && Qza b (off+(l.map fun _=>EV.any).length))) with
  | true =>
   rw [cond_true]
   have:(l.map fun _=>EV.any).getD (b - off) .any=.any:=by
    rw [Qy8,Qy7];cases l[b - off]? <;> rfl
   rw [this];unfold EV.av RA;trivial
  | false =>
   rw [cond_false];rcases h2 a ha b hb with ⟨e1,e2,e3⟩ | h
   ·exfalso;rw [Qzx] at hc;have:(Qy4 a i && (Qzf off b && Qza b (off+l.length)))=true:=by simp [e1,Qzc,Qzm,e2,e3]
    rw [this] at hc;cases hc
   ·exact h u k) h1
 have h5:=Qcm (i * s+off) h4 h3;rw [QvD hi ho] at h5
 have e:avC n s (stZ (stZ f i off (l.map fun _=>.any)) i off l)=avC n s (stZ f i off l):=QbO fun a _ b _=>by
  congr 1;unfold stZ;rw [Qzx];cases (Qy4 a i && (Qzf off b && Qza b (off+l.length))) <;> rfl
 rw [e] at h5;exact h5
theorem Qp5 {T:TypeId} {x y:Operand} {u v:EV} {R:RS} (hP:tab.ok P) (S:Sub vs bs st) (h:QmN tab bs T u v=some R) (hC:∀ c∈R.C,c) (hx:Gv (st.as.ev x) u.av) (hy:Gv (st.as.ev y) v.av) :
  Qf P E kp n ops ⟨none,.store T x y,ty,ps,af,none⟩ st.as (R.app st).as:=by
 unfold QmN at h
 cases hti:tab.find T with
 | none=>rw [hti] at h;cases h
 | some ti =>
  rw [hti] at h;have hT:=TT.find_ok hP hti;simp only at h;split at h
  ·next r off =>
   split at h
   ·next m f t hb =>
    have hob:st.as.ob r=.box ((azC m f).map AV.p) t:=S.ob hb (by simp);split at h
    ·next m' g =>
     obtain ⟨hc,h⟩:=QQ h;cases h;simp only [Qy3] at hc;have e1:=Qe hc.1.1;have e2:=Qe hc.1.2;have e3:=Qe hc.2;subst e1 e3;have ho:=hC (∀ i,i < m'→YF (g i)=true∧(g i).sh=true) (by simp);refine (X7 (v:=.agg ((azC m' g).map AV.p)) hx (hy.trans Gv.agg') hT.sz hob (by exact QfO (fun i hi=>(ho i hi).1) (fun i hi=>(ho i hi).2)) (by simp [AV.cs,e2]) (by simp [e2])).cast ?_;show AS.mk _ ((r,OB.box (QD ((azC m' f).map AV.p) 0 ((azC m' g).map AV.p)) t)::obs st.heap)=AS.mk _ ((r,OB.box ((azC m' g).map AV.p) t)::obs st.heap);rw [JI (by simp)];rfl
    ·next l =>
     obtain ⟨hc,h⟩:=QQ h;cases h;simp only [Qy3] at hc;have e1:=Qe hc.1.1.1;have e2:=Qe hc.1.1.2;have e3:=Qe hc.1.2;subst e1;refine (X7 (v:=.agg (avL l)) hx hy hT.sz hob (by exact Yr _ hc.2) (by simp [AV.cs,QJ,e2,e3]) (by simp [e2])).cast ?_;show AS.mk _ ((r,OB.box (QD ((azC m f).map AV.p) 0 (avL l)) t)::obs st.heap)=AS.mk _ ((r,OB.box (avL l) t)::obs st.heap);rw [JI (by simp [QJ,e3])];rfl
    ·obtain ⟨hc,h⟩:=QQ h
     ·cases h;simp only [Qy3] at hc;have e1:=Qe hc.1.1;have hi:=hC (off < m) (by simp);have ea:=QmV hc.1.2 hc.2;refine (X7 hx hy hT.sz hob (by rw [cs1 hc.1.2];simp only [ZN,Bool.and_true];exact QmU _ hc.1.2) (by rw [e1,cs1 hc.1.2];rfl) (by simp;omega)).cast ?_;rw [cs1 hc.1.2,ea];show AS.mk _ ((r,OB.box (((azC m f).map AV.p).set off (.p v.pv)) t)::obs st.heap)=AS.mk _ ((r,OB.box ((azC m (fun a=>bif Qy4 a off then v else f a)).map AV.p) t)::obs st.heap);rw [QvC hi];rfl
   ·next cells t hb =>
    split at h
    ·next m' g =>
     obtain ⟨hc,h⟩:=QQ h;cases h;simp only [Qy3] at hc;have e1:=Qe hc.1.1;have e2:=Qe hc.1.2;have e3:=Qe hc.2;subst e1;have ho:=hC (∀ i,i < m'→YF (g i)=true∧(g i).sh=true) (by simp);refine (X7 (v:=.agg ((azC m' g).map AV.p)) hx (hy.trans Gv.agg') hT.sz (S.ob hb (by simp)) (by exact QfO (fun i hi=>(ho i hi).1) (fun i hi=>(ho i hi).2)) (by simp [AV.cs,e2]) (by rw [QJ];omega)).cast ?_;show AS.mk _ ((r,OB.box (QD (avL cells) 0 ((azC m' g).map AV.p)) t)::obs st.heap)=AS.mk _ ((r,OB.box ((azC m' g).map AV.p) t)::obs st.heap);rw [JI (by simp [QJ,e3])];rfl
    ·cases hc:Qy4 (csE v).length ti.sz && Q6 (csE v) && Qzf (off+ti.sz) cells.length with
    | false=>rw [hc] at h;cases h
    | true =>
     rw [hc] at h;simp only [cond_true] at h;simp only [Qy3,Qzc] at hc;split at h
     ·next c hq =>
      cases h;obtain ⟨h1,h2⟩:=QfI hq;obtain ⟨z,hz1,hz2⟩:=Qoh v hc.1.2;have hlen:=Qe hc.1.1;refine (X7 hx (hy.trans hz1) hT.sz (S.ob hb (by simp)) (by rw [hz2];exact Yr _ hc.1.2) (by rw [hz2,QJ];exact hlen) (by rw [QJ];exact hc.2)).cast ?_;rw [hz2,h1];show AS.mk _ ((r,OB.box (QD (avL cells) off (avL (csE v))) t)::obs st.heap)=AS.mk _ ((r,OB.box (avL (QD cells off (csE v))) t)::obs st.heap);rw [Qog];rfl
     ·cases h
   ·cases h
  ·next r s i off =>
   split at h
   ·next l t pub hb =>
    cases hc:Qy4 s 1 && Qy4 off 0 && Qy4 ti.sz 1 with
    | false=>rw [hc] at h;cases h
    | true =>
     rw [hc] at h;simp only [cond_true] at h;simp only [Qy3] at hc;have e1:=Qe hc.1.1;have e2:=Qe hc.1.2;have e3:=Qe hc.2;subst e1 e2;split at h
     ·next c hq =>
      cases h;have hi:=hC (i < l.length) (by simp);have hp:=hC (pub≤i) (by simp);refine (QbL (off:=i) (s:=1) (qs:=[b8P c]) (by simpa [EV.av] using hx) (hy.trans (Qbb hq)) (by rw [hT.sz,e3]) (S.ob hb (by simp)) (by rfl) rfl rfl hp (by simp;omega)).cast ?_;show AS.mk _ ((r,OB.row (QD (l.map b8P) i [b8P c]) t 1 pub)::obs st.heap)=AS.mk _ ((r,OB.row ((l.set i c).map b8P) t 1 pub)::obs st.heap);rw [Qr3];rfl
     ·cases h
   ·next cells t sz pub hb =>
    cases hc:Qy4 (csE v).length ti.sz && Q6 (csE v) && shL (csE v) && Qzf (i * s+off+ti.sz) cells.length with
    | false=>rw [hc] at h;cases h
    | true =>
     rw [hc] at h;simp only [cond_true] at h;simp only [Qy3,Qzc] at hc;split at h
     ·next c hq =>
      cases h;obtain ⟨h1,h2⟩:=QfI hq;obtain ⟨z,hz1,hz2⟩:=Qoh v hc.1.1.2;have hlen:=Qe hc.1.1.1;have hp:=hC (pub≤i * s+off) (by simp);refine (QbL (qs:=pvL (csE v)) hx (hy.trans hz1) hT.sz (S.ob hb (by simp)) (by rw [hz2];exact Yr _ hc.1.1.2) (by rw [hz2];exact Qaz _ hc.1.1.2 hc.1.2) (by rw [Qu];exact hlen) hp (by rw [Qu];exact hc.2)).cast ?_;rw [h1];show AS.mk _ ((r,OB.row (QD (pvL cells) (i * s+off) (pvL (csE v))) t sz pub)::obs st.heap)=AS.mk _ ((r,OB.row (pvL (QD cells (i * s+off) (csE v))) t sz pub)::obs st.heap);rw [Qvt];rfl
     ·cases h
   ·next m sz f t pub hb =>
    cases hc:Qy4 s sz && Qy4 (csE v).length ti.sz && Q6 (csE v) && shL (csE v) && Qzf (off+ti.sz) sz && Qzf 1 ti.sz with
    | false=>rw [hc] at h;cases h
    | true =>
     rw [hc] at h;simp only [cond_true] at h;cases h;simp only [Qy3,Qzc] at hc;obtain ⟨⟨⟨⟨⟨c1,c2⟩,c3⟩,c4⟩,c5⟩,c6⟩:=hc;have e1:=Qe c1;subst e1;have hlen:=Qe c2;obtain ⟨z,hz1,hz2⟩:=Qoh v c3;have hi:=hC (i < m) (by simp);have hp:=hC (pub≤i * s+off) (by simp)
     have hin:i * s+off+(csE v).length≤m * s:=by
      have:(i+1) * s≤m * s:=Qze _ hi;rw [Qy9] at this;omega
     refine (QbL (qs:=pvL (csE v)) hx (hy.trans hz1) hT.sz (S.ob hb (by simp)) (by rw [hz2];exact Yr _ c3) (by rw [hz2];exact Qaz _ c3 c4) (by rw [Qu];exact hlen) hp (by rw [WX];omega)).cast ?_;show AS.mk _ ((r,OB.row (QD (lzC m s f) (i * s+off) (pvL (csE v))) t s pub)::obs st.heap)=AS.mk _ ((r,OB.row (lzC m s (stZ f i off (csE v))) t s pub)::obs st.heap);rw [QxZ hi (by omega) (by omega)];rfl
   ·next m sz f t ns hb =>
    obtain ⟨hc,h⟩:=QQ h;simp only [Qy3,Qzc] at hc;obtain ⟨⟨c1,c5⟩,c6⟩:=hc;have e1:=Qe c1;subst e1
    have hin:∀ k,i < m→off+k≤s→i * s+off+k≤m * s:=fun k hi hk=>by
     have:(i+1) * s≤m * s:=Qze _ hi;rw [Qy9] at this;omega
    split at h
    ·next q mm _ =>
     obtain ⟨hc2,h⟩:=QQ h;cases h;simp only [Qy3,Qzm] at hc2;have e2:=Qe hc2.1;have hi:=hC (i < m) (by simp);have ho:=hC (∀ a,a < m → ∀ b,b < s→(a=i∧b=off)∨noL i (f a b)) (by simp);refine (Qhp (cells:=avC m s f) (cells':=avC m s (stZ f i off [.osl i mm])) (ns':=ns.set i q) hx hy hT.sz (S.ob hb (by simp)) rfl (by rw [e2];rfl) (by rw [Xa,Xa]) (by rw [Xa];exact hin _ hi c5) fun w Pub φ vs us k1 k2=>?_).cast rfl;refine Qss hi (by simp only [Qy6,Qzl];omega) k1 (fun a ha b hb=>?_) ?_
     ·rcases ho a ha b hb with ⟨e3,e4⟩ | h
      ·exact .inl ⟨e3,by omega,by simp only [Qy6,Qzl];omega⟩
      ·exact .inr fun u k=>Qsr h k
     ·have e3:loc φ (ns.set i q) i=φ q:=Qba (by rw [Qzn (by omega)]);simp only [avL,EV.av,AV.cs] at k2 ⊢;unfold RAs at k2 ⊢;obtain ⟨u,us',e,k3,k4⟩:=k2;refine ⟨u,us',e,?_,by unfold RAs at k4 ⊢;exact k4⟩;unfold RA at k3 ⊢;rw [e3];exact k3
    ·obtain ⟨hc2,h⟩:=QQ h;cases h;simp only [Qy3] at hc2;obtain ⟨⟨c2,c3⟩,c4⟩:=hc2;have hlen:=Qe c2;have hi:=hC (i < m) (by simp);obtain ⟨z,hz1,hz2⟩:=Qoh v c3;refine (Qhp (cells:=avC m s f) (cells':=avC m s (stZ f i off (csE v))) (ns':=ns) hx (hy.trans hz1) hT.sz (S.ob hb (by simp)) (by rw [hz2];exact Yr _ c3) (by rw [hz2,QJ];exact hlen) (by rw [Xa,Xa]) (by rw [Xa];exact hin _ hi c5) fun w Pub φ vs us k1 k2=>?_).cast rfl;refine Qss hi (by omega) k1 (fun a ha b hb=>.inr fun u k=>k) ?_;rw [hz2] at k2;exact (YO _ _ c4).2 ((YO _ _ c4).1 k2)
   ·cases h
  ·cases h
theorem QvE {T f:Nat} {x:Operand} {u y:EV} (hP:tab.ok P) (h:fldF tab T f u=some y) (hd:Qza d n=true) {st:AS} (hx:Gv (st.ev x) u.av) :
  Qf P E kp n ops ⟨some d,.fieldAddr T x f,ty,ps,af,none⟩ st (st.put d y.av):=by
 unfold fldF at h;split at h
 ·next pl _ _ _ _ hti =>
  have hT:=(TT.find_ok hP hti).st pl rfl;split at h
  ·next o s _ hpl =>
   have hi:(pl.map fun p=>(p.1,p.2.1))[f]? = some (o,s+1):=by rw [Qy7,hpl];rfl
   split at h
   ·cases h;exact Qfe hx hT hi (by omega) hd
   ·cases h;exact Qhd hx hT hi (by omega) hd
   ·next r s' i off =>
    cases h;refine (Qfe hx hT hi (by omega) hd).cast (WY ?_);show AV.own r (i * s'+off+o)=AV.own r (i * s'+(off+o));rw [Nat.add_assoc]
   ·next m s' g i off =>
    cases h;refine (Qhd (off:=i * s'+off) hx hT hi (by omega) hd).cast (WY ?_);show AV.p (.pp _ (i * s'+off+o))=AV.p (.pp _ (i * s'+(off+o)));rw [Nat.add_assoc]
   ·cases h
  ·cases h
 ·cases h
theorem Qoj {T:TypeId} {x y:Operand} {u v z:EV} {C:List Prop} (hP:tab.ok P) (h:Qse tab T u v=some (C,z)) (hC:∀ c∈C,c) (hd:Qza d n=true) {st:AS} (hx:Gv (st.ev x) u.av) (hy:Gv (st.ev y) v.av) :
  Qf P E kp n ops ⟨some d,.indexAddr T x y,ty,ps,af,none⟩ st (st.put d z.av):=by
 unfold Qse at h
 cases hv:Vc v with
 | none=>rw [hv] at h;cases h
 | some p =>
  obtain ⟨k,i⟩:=p;rw [hv] at h;simp only at h;have hy':=hy.trans (Qav hv);split at h
  ·next e s _ _ _ _ _ _ hti =>
   obtain ⟨_,hT,_⟩:=(TT.find_ok hP hti).sl e s _ _ rfl;split at h
   ·next l =>
    cases hc:Qy4 s 1 with
    | false=>rw [hc] at h;cases h
    | true =>
     rw [hc] at h;cases h;have e1:=Qe hc;subst e1;have hb:=hC (0≤i∧i < (l.length:Int)) (by simp);refine (Qdj hy' hd (cells:=l.map b8P) (m:=l.length) hx hT hb.1 hb.2).cast (WY ?_);rw [Nat.mul_one];rfl
   ·next m sz f =>
    cases hc:Qy4 s sz with
    | false=>rw [hc] at h;cases h
    | true =>
     rw [hc] at h;cases h;have e1:=Qe hc;subst e1;have hb:=hC (0≤i∧i < (m:Int)) (by simp);exact (Qdj hy' hd hx hT hb.1 hb.2).cast (WY (by simp [EV.av,EV.pv]))
   ·next cells m =>
    cases h;have hb:=hC (0≤i∧i < (m:Int)) (by simp);exact Qdj hy' hd hx hT hb.1 hb.2
   ·next r m =>
    cases h;have hb:=hC (0≤i∧i < (m:Int)) (by simp);exact (Qmz (sz:=0) (pub:=0) (cells:=[]) (t:=0) hy' hd hx hT hb.1 hb.2).cast (WY (by simp [EV.av]))
   ·cases h
  ·next m s _ _ _ _ _ hti =>
   obtain ⟨hT,_,_⟩:=(TT.find_ok hP hti).ar m s _ rfl;split at h
   ·cases h;have hb:=hC (0≤i∧i < (m:Int)) (by simp);exact QmA hy' hd hx hT hb.1 hb.2
   ·cases h;have hb:=hC (0≤i∧i < (m:Int)) (by simp);exact Qir hy' hd hx hT hb.1 hb.2
   ·cases h
  ·cases h
theorem Qx0 {T:TypeId} {x y:Operand} {u v z:EV} {C:List Prop} (hP:tab.ok P) (h:atF tab T u v=some (C,z)) (hC:∀ c∈C,c) (hd:Qza d n=true) {st:AS} (hx:Gv (st.ev x) u.av) (hy:Gv (st.ev y) v.av) :
  Qf P E kp n ops ⟨some d,.index T x y,ty,ps,af,none⟩ st (st.put d z.av):=by
 unfold atF at h
 cases hv:Vc v with
 | none=>rw [hv] at h;cases h
 | some p =>
  obtain ⟨k,i⟩:=p;rw [hv] at h;simp only at h;have hy':=hy.trans (Qav hv);split at h
  ·next hti =>
   split at h
   ·next l hl =>
    cases h;have hb:=hC (0≤i∧i < (l.length:Int)) (by simp);have e:=Yc hl;subst e;refine QmB hy' hd hx ((TT.find_ok hP hti).str rfl) hb.1 ?_;rw [Qy8,Qzg (by omega)];rfl
   ·cases h
  ·next m e _ _ _ _ hti =>
   obtain ⟨_,hT,hs⟩:=(TT.find_ok hP hti).ar m 1 e rfl;split at h
   ·next hte =>
    have hE:=TT.find_ok hP hte;split at h
    ·next l =>
     split at h
     ·next q hq =>
      cases h;have hb:=hC (0≤i∧i < (m:Int)) (by simp);rw [VD] at hq;exact Qff hy' hd hx hT hE.agg hs hb.1 hb.2 (by rw [Qcy,hq];rfl)
     ·cases h
    ·next m' f =>
     obtain ⟨hc,h⟩:=QQ h;cases h;simp only [Qy3] at hc;have e1:=Qe hc.2;subst e1;have hb:=hC (0≤i∧i < (m':Int)) (by simp);exact (Qff hy' hd (hx.trans Gv.agg') hT hE.agg hs hb.1 hb.2 (v:=.p (f i.toNat).pv) (by rw [Qy7,QiO (by omega)];rfl)).gv (Gv.sh' hc.1)
    ·cases h
   ·cases h
  ·next m s e _ _ _ _ hns hti =>
   obtain ⟨_,hT,hs⟩:=(TT.find_ok hP hti).ar m s e rfl;split at h
   ·next hte =>
    have hE:=TT.find_ok hP hte;split at h
    ·next l =>
     split at h
     ·next q hq =>
      cases h;have hb:=hC (0≤i∧i < (m:Int)) (by simp);obtain ⟨h1,h2⟩:=QdA hq;rw [Qay] at h1;exact Qj7 hy' hd hx hT hE.agg hs hb.1 hb.2 (by rw [← QfJ,← QfK,← h1])
     ·cases h
    ·cases h
   ·cases h
  ·cases h
end
end
section
open Go.RowKit
theorem Qcz {m sz k i:Nat} {f:Nat→Nat→EV} (h:i+k≤m):((lzC m sz f).drop (i * sz)).take (k * sz)=lzC k sz (fun a b=>f (i+a) b):=by
 apply Qzd;intro q;rw [Qzs];by_cases hq:q < k * sz
 ·rw [if_pos hq,List.getElem?_drop]
  have hs:0 < sz:=by
   rcases Qzr sz with e | e
   ·subst e;omega
   ·exact e
  have h1:q / sz < k:=QzC (by rw [Qzj];exact hq);have h2:=QzB q hs;have h3:=Qzo q sz;have e1:i * sz+q=(i+q / sz) * sz+q % sz:=by rw [Nat.add_mul,Qzj (q / sz) sz];omega
  have e2:=XG k sz (fun a b=>f (i+a) b) (i:=q / sz) (j:=q % sz) h1 h2;rw [Qzj (q / sz) sz,h3] at e2;rw [e1,XG m sz f (by omega) h2,e2]
 ·rw [if_neg hq,Qy5 (by rw [WX];omega)]
theorem Xp {m sz:Nat} {f g:Nat→Nat→EV} (h:∀ i,i < m → ∀ j,j < sz→f i j=g i j):lzC m sz f=lzC m sz g:=by
 unfold lzC
 have:∀ l:List Nat,(∀ i∈l,i < m)→(l.flatMap fun i=>(Qzq sz).map fun j=>(f i j).pv)=l.flatMap fun i=>(Qzq sz).map fun j=>(g i j).pv:=by
  intro l
  induction l with
  | nil=>intro _;rfl
  | cons a l ih =>
   intro hl;rw [List.flatMap_cons,List.flatMap_cons,ih (fun i hi=>hl i (Qzk _ hi))];congr 1;exact QzE fun j hj=>by rw [h a (hl a (by simp)) j (Qzh.1 hj)]
 exact this _ fun i hi=>Qzh.1 hi
theorem JJ (n k sz:Nat) (f:Nat→Nat→EV):lzC (n+k) sz f=lzC n sz f++lzC k sz (fun a b=>f (n+a) b):=by
 have h1:=Qcz (m:=n+k) (sz:=sz) (k:=n) (i:=0) (f:=f) (by omega);have h2:=Qcz (m:=n+k) (sz:=sz) (k:=k) (i:=n) (f:=f) (by omega);have e:(fun a b=>f (0+a) b)=f:=by funext a b;rw [QzF]
 rw [e] at h1;rw [← h1,← h2,QzG,List.drop_zero];have hl:(lzC (n+k) sz f).length=(n+k) * sz:=WX _ _ _;rw [Qzy (l:=(lzC (n+k) sz f).drop (n * sz)) (by rw [List.length_drop,hl,Nat.add_mul];omega),List.take_append_drop]
theorem QiR (k sz:Nat) (m:List EV) (h:m.length=k * sz):lzC k sz (fun a b=>m.getD (a * sz+b) .any)=pvL m:=by
 apply Qzd;intro q;by_cases hq:q < k * sz
 ·have hs:0 < sz:=by
   rcases Qzr sz with e | e
   ·subst e;omega
   ·exact e
  have h1:q / sz < k:=QzC (by rw [Qzj];exact hq);have h2:=QzB q hs;have h3:=Qzo q sz;have e2:=XG k sz (fun a b=>m.getD (a * sz+b) .any) (i:=q / sz) (j:=q % sz) h1 h2;rw [Qzj (q / sz) sz,h3] at e2;rw [e2,Qbc,Qy8,Qzg (by omega)];rfl
 ·rw [Qy5 (by rw [WX];omega),Qy5 (by rw [Qu];omega)]
theorem Qhu (x:EV) (h:Q6 (csE x)=true):x.av.cs=avL (csE x):=by
 cases x with
 | agg l=>rfl
 | tup l=>simp [csE,Q6,YF] at h
 | raw x=>simp [csE,Q6,YF] at h
 | cnd g x=>simp [csE,Q6,YF] at h
 | any=>simp [csE,Q6,YF] at h
 | az n f=>simp [csE,Q6,YF] at h
 | rp t=>cases t <;> rfl
 | _=>rfl
theorem QeC:∀ z:List Value,Qej z=avL (vsE z)
 | []=>rfl
 | x::z=>by
  have:=QeC z;simp only [Qej,Qzb] at this ⊢;simp only [vsE,avL,EV.av,this]
theorem QfQ {α:Type} (xs l:List α) (o:Nat) (h:o+xs.length≤l.length):QD l o xs=l.take o++xs++l.drop (o+xs.length):=by
 induction xs generalizing l o with
 | nil=>simp [QD]
 | cons x xs ih =>
  show QD (l.set o x) (o+1) xs=_;simp only [Qy6] at h;rw [ih (l.set o x) (o+1) (by simp;omega)]
  have e1:(l.set o x).take (o+1)=l.take o++[x]:=by
   apply Qzd;intro i;rw [Qzs,List.getElem?_set];by_cases h1:i < o
   ·rw [if_pos (by omega),if_neg (by omega),List.getElem?_append_left (by simp;omega),Qzs,if_pos h1]
   ·by_cases h2:i=o
    ·subst h2;rw [if_pos (by omega),if_pos rfl,if_pos (by omega),List.getElem?_append_right (by simp;omega)];simp [show i - min i l.length=0 from by omega]
    ·rw [if_neg (by omega),Qy5 (by simp;omega)]
  rw [e1,List.drop_set_of_lt (by omega)];simp only [List.append_assoc,Qzt,List.nil_append,Qy6];rw [show o+1+xs.length=o+(xs.length+1) from by omega]
theorem QfR (pl:List (Nat×Nat×Bool)):∀ {cells:List EV} {parts:List (Nat×EV)} {out:List EV},Qhr pl cells parts=some out →
  Vu (pl.map fun p=>(p.1,p.2.1)) (avL cells) (parts.map fun p=>(p.1,p.2.av))=some (avL out) ∧ ∀ p∈parts,p.2≠.any
 | cells,[],out,h=>by unfold Qhr at h;cases h;exact ⟨rfl,by simp⟩
 | cells,(i,x)::rest,out,h=>by
  unfold Qhr at h
  cases hi:pl[i]? with
  | none=>rw [hi] at h;cases h
  | some q =>
   obtain ⟨o,s,g⟩:=q;rw [hi] at h;simp only at h
   cases hc:Qy4 (csE x).length s && Q6 (csE x) && Qzf (o+s) cells.length with
   | false=>rw [hc] at h;cases h
   | true =>
    rw [hc] at h;simp only [cond_true] at h;simp only [Qy3,Qzc] at hc;obtain ⟨hc,hle⟩:=hc;have hlen:=Qe hc.1;split at h
    ·next c hq =>
     obtain ⟨h1,h2⟩:=QfI hq;obtain ⟨k1,k2⟩:=QfR pl h;have hcs:=Qhu x hc.2;have hne:x≠.any:=fun e=>by subst e;simp [csE,Q6,YF] at hc
     refine ⟨?_,fun p hp=>?_⟩
     ·simp only [Qzb,Vu,Qy7,hi,Qzw];rw [hcs];rw [if_pos ⟨by rw [QJ];exact hlen,by rw [QJ];exact hle,Yr _ hc.2⟩];rw [← Qog,← h1];exact k1
     ·rcases List.mem_cons.1 hp with rfl | hp
      ·exact hne
      ·exact k2 p hp
    ·cases h
end
section
open Go.RowKit
section
variable {P:Program} {E:Env} {kp:List Nat} {n:Nat} {ops:Array Oper} {d:Nat} {ty:TypeId} {ps:String} {af:Array Edge}
theorem QdC {st:AS} (t r:Nat) {m sz pub:Nat} {cells:List PV} {T:TypeId} (hx:Gv (look AV.any st.slots t) (.osl r m)) (hl:st.ob r=.row cells T sz pub) :
  Wk E kp n st ⟨(t,.p (.sl cells m))::st.slots,(r,.row cells T sz cells.length)::st.heap⟩:=by
 rintro a w ⟨φ,Pub,I,h0,hn,hsl⟩;obtain ⟨Pub',I',H,k1,k2⟩:=I.share hl (.inl rfl);refine ⟨φ,Pub',I',h0,hn,fun s=>?_⟩;simp only [Qb];split
 ·next e =>
  subst e;have k:=Qhi k1 k2 (QX H _ _ (fun _ _=>rfl) (hx _ _ _ _ (hsl t)));simpa [shA] using k
 ·exact QX H _ _ (fun _ _=>rfl) (hsl s)
variable {tab:TT} {vs:List (Nat×EV)} {bs:List (Nat×EB)} {st:ES}
theorem Qok {st:AS}:Wk E kp n st st:=fun _ _ h=>h
theorem QfS {x:Operand} {y:EV} {R:RS} (S:Sub vs bs st) (h:frz vs bs x=some (y,R)) (hC:∀ c∈R.C,c) :
  Wk E kp n st.as (R.app st).as∧Gv ((R.app st).as.ev x) y.av∧(∀ z,(∀ q m,Qw vs z≠.osl q m)→(R.app st).as.ev z=st.as.ev z):=by
 unfold frz at h;split at h
 ·next t =>
  split at h
  ·next r m hv =>
   have hx:Gv (look AV.any st.as.slots t) (.osl r m):=by
    have:=S.v (.tmp t);have e:Qw vs (.tmp t)=.osl r m:=hv;rw [e] at this;exact this
   have oth:∀ (y:AV) (H:List (Nat×OB)) (z:Operand),(∀ q m,Qw vs z≠.osl q m)→(AS.mk ((t,y)::st.as.slots) H).ev z=st.as.ev z:=fun y H z hz=>by
    cases z with
    | tmp t' =>
     show look AV.any ((t,y)::st.as.slots) t'=look AV.any st.as.slots t';rw [Qb,if_neg (fun e=>hz r m (by rw [← e];exact hv))]
    | _=>rfl
   split at h
   ·next l T pub hb =>
    cases h;have e:m=l.length:=hC (m=l.length) (by simp);subst e;have k:=QdC (E:=E) (kp:=kp) (n:=n) t r hx (S.ob hb (by simp));rw [Qzx] at k;refine ⟨k,?_,fun z hz=>oth _ _ z hz⟩;show Gv (look AV.any ((t,_)::_) t) _;rw [Qb,if_pos rfl];exact Gv.r
   ·next m' sz f T pub hb =>
    cases h;have e:m=m':=hC (m=m') (by simp);subst e;have k:=QdC (E:=E) (kp:=kp) (n:=n) t r hx (S.ob hb (by simp));rw [WX] at k;refine ⟨?_,?_,fun z hz=>oth _ _ z hz⟩
    ·exact k
    ·show Gv (look AV.any ((t,_)::_) t) _;rw [Qb,if_pos rfl];exact Gv.r
   ·next cells T sz pub hb =>
    cases h;have k:=QdC (E:=E) (kp:=kp) (n:=n) t r hx (S.ob hb (by simp));rw [Qu] at k;refine ⟨k,?_,fun z hz=>oth _ _ z hz⟩;show Gv (look AV.any ((t,_)::_) t) _;rw [Qb,if_pos rfl];exact Gv.r
   ·cases h
  ·next y' hv =>
   cases h;exact ⟨Qok,S.v (.tmp t),fun _ _=>rfl⟩
 ·cases h;exact ⟨Qok,S.v _,fun _ _=>rfl⟩
theorem Qst {y:Option EV} {o:Option Int} (h:(match y with | none=>some none | some y=>(Vc y).map fun p=>some p.2)=some o):(y=none∧o=none)∨∃ z k i,y=some z∧o=some i∧Vc z=some (k,i):=by
 cases y with
 | none=>cases h;exact .inl ⟨rfl,rfl⟩
 | some z =>
  simp only at h
  cases hz:Vc z with
  | none=>rw [hz] at h;cases h
  | some p =>
   obtain ⟨k,i⟩:=p;rw [hz] at h;cases h;exact .inr ⟨z,k,i,rfl,rfl,hz⟩
theorem QvF {T:TypeId} {x:Operand} {lo hi:Option Operand} {u z:EV} {C:List Prop} (hP:tab.ok P) {st:AS} {f:Operand→EV} (h:cutF tab T u (lo.map f) (hi.map f)=some (C,z)) (hC:∀ c∈C,c) (hd:Qza d n=true) (hx:Gv (st.ev x) u.av)
  (hf:∀ y,(lo=some y∨hi=some y)→(Vc (f y)).isSome=true→Gv (st.ev y) (f y).av):Qf P E kp n ops ⟨some d,.slice T x lo hi none,ty,ps,af,none⟩ st (st.put d z.av):=by
 unfold cutF at h;split at h
 ·next lo' hi' h1 h2 =>
  have g1:=Qst h1;have g2:=Qst h2
  have i1:∀ i,lo'=some i→∃ y k,lo=some y∧Gv (st.ev y) (.p (.v (.int k i))):=fun i hi=>by
   rcases g1 with ⟨_,e⟩ | ⟨z,k,j,e1,e2,e3⟩
   ·rw [e] at hi;cases hi
   ·rw [e2] at hi;cases hi
    cases lo with
    | none=>cases e1
    | some y=>cases e1;exact ⟨y,k,rfl,(hf y (.inl rfl) (by rw [e3];rfl)).trans (Qav e3)⟩
  have i2:∀ i,hi'=some i→∃ y k,hi=some y∧Gv (st.ev y) (.p (.v (.int k i))):=fun i hq=>by
   rcases g2 with ⟨_,e⟩ | ⟨z,k,j,e1,e2,e3⟩
   ·rw [e] at hq;cases hq
   ·rw [e2] at hq;cases hq
    cases hi with
    | none=>cases e1
    | some y=>cases e1;exact ⟨y,k,rfl,(hf y (.inr rfl) (by rw [e3];rfl)).trans (Qav e3)⟩
  have n1:lo'=none→lo=none:=fun e=>by
   rcases g1 with ⟨e1,_⟩ | ⟨z,k,j,e1,e2,e3⟩
   ·cases lo with
    | none=>rfl
    | some y=>cases e1
   ·rw [e2] at e;cases e
  have n2:hi'=none→hi=none:=fun e=>by
   rcases g2 with ⟨e1,_⟩ | ⟨z,k,j,e1,e2,e3⟩
   ·cases hi with
    | none=>rfl
    | some y=>cases e1
   ·rw [e2] at e;cases e
  clear h1 h2 g1 g2;split at h
  ·next hti =>
   have hT:=(TT.find_ok hP hti).str rfl;split at h
   ·next l hl =>
    have e:=Yc hl;subst e
    cases lo' with
    | none =>
     obtain rfl:=n1 rfl
     cases hi' with
     | none=>cases h
     | some j =>
      obtain ⟨y,k,rfl,hy⟩:=i2 j rfl;cases h;have hb:=hC (0≤j∧j≤(l.length:Int)) (by simp);exact QuX hx hT hd hy hb.1 hb.2
    | some i =>
     obtain ⟨y,k,rfl,hy⟩:=i1 i rfl
     cases hi' with
     | none =>
      obtain rfl:=n2 rfl;cases h;have hb:=hC (0≤i∧i≤(l.length:Int)) (by simp);exact QuW hx hT hd hy hb.1 hb.2
     | some j =>
      obtain ⟨y2,k2,rfl,hy2⟩:=i2 j rfl;cases h;have hb:=hC (0≤i∧i≤j∧j≤(l.length:Int)) (by simp);exact QpS hx hT hd hy hy2 hb.1 hb.2.1 hb.2.2
   ·cases h
  ·next e s _ _ _ _ _ _ hti =>
   obtain ⟨_,hT,_⟩:=(TT.find_ok hP hti).sl e s _ _ rfl;split at h
   ·next l =>
    cases hc:Qy4 s 1 with
    | false=>rw [hc] at h;cases h
    | true =>
     rw [hc] at h;simp only [cond_true] at h;have e1:=Qe hc;subst e1
     cases lo' with
     | none =>
      obtain rfl:=n1 rfl
      cases hi' with
      | none=>cases h
      | some j =>
       obtain ⟨y,k,rfl,hy⟩:=i2 j rfl;cases h;have hb:=hC (0≤j∧j≤(l.length:Int)) (by simp);exact QxL hx hT hd hy rfl hb.1 hb.2
     | some i =>
      obtain ⟨y,k,rfl,hy⟩:=i1 i rfl
      cases hi' with
      | none =>
       obtain rfl:=n2 rfl;cases h;have hb:=hC (0≤i∧i≤(l.length:Int)) (by simp);exact QxK hx hT hd hy rfl hb.1 hb.2
      | some j =>
       obtain ⟨y2,k2,rfl,hy2⟩:=i2 j rfl;cases h;have hb:=hC (0≤i∧i≤j∧j≤(l.length:Int)) (by simp);exact QrW hx hT hd hy hy2 rfl rfl hb.1 hb.2.1 hb.2.2
   ·next m sz g =>
    cases hc:Qy4 s sz with
    | false=>rw [hc] at h;cases h
    | true =>
     rw [hc] at h;simp only [cond_true] at h;have e1:=Qe hc;subst e1;have hx':Gv (st.ev x) (.p (.sl (lzC m s g) m)):=by simpa [EV.av,EV.pv] using hx
     have hlen:m * s≤(lzC m s g).length:=by rw [WX];exact Nat.le_refl _
     cases lo' with
     | none =>
      obtain rfl:=n1 rfl
      cases hi' with
      | none=>cases h
      | some j =>
       obtain ⟨y,k,rfl,hy⟩:=i2 j rfl;cases h;have hb:=hC (0≤j∧j≤(m:Int)) (by simp);refine (QrU hx' hT hlen hd hy hb.1 hb.2).cast (WY ?_);have k:=Qcz (m:=m) (sz:=s) (k:=j.toNat) (i:=0) (f:=g) (by omega);have e:(fun a b=>g (0+a) b)=g:=by funext a b;rw [QzF]
       rw [QzG,List.drop_zero,e] at k;rw [k];simp [EV.av,EV.pv]
     | some i =>
      obtain ⟨y,k,rfl,hy⟩:=i1 i rfl
      cases hi' with
      | none =>
       obtain rfl:=n2 rfl;cases h;have hb:=hC (0≤i∧i≤(m:Int)) (by simp);refine (QrT hx' hT hlen hd hy hb.1 hb.2).cast (WY ?_);rw [Qcz (by omega)];simp [EV.av,EV.pv]
      | some j =>
       obtain ⟨y2,k2,rfl,hy2⟩:=i2 j rfl;cases h;have hb:=hC (0≤i∧i≤j∧j≤(m:Int)) (by simp);refine (Qj9 hx' hT hlen hd hy hy2 hb.1 hb.2.1 hb.2.2).cast (WY ?_);rw [Qcz (by omega)];simp [EV.av,EV.pv]
   ·cases h
  ·cases h
 ·cases h
theorem Qp6 {T:TypeId} {R:RS} (hP:tab.ok P) (h:QiH tab d T=some R) (hf:∀ p∈R.hp,st.free kp p.1=true) (hd:Qza d n=true):Qf P E kp n ops ⟨some d,.alloc T,ty,ps,af,none⟩ st.as (R.app st).as:=by
 unfold QiH at h;split at h
 ·next z _ hti =>
  cases h;obtain ⟨h1,h2⟩:=(TT.find_ok hP hti).ze z rfl;have hfr:=hf (nmB d,.box (vsE z) T) (by simp);refine (QuV (nmB d) h1 h2 (by rw [Zc];exact hfr) hd).cast ?_;rw [QeC];rfl
 ·cases h
theorem QvG {r:Nat} {x:EV} {st:ES} (h:st.free kp r=true) (hx:∀ q,x.has q=true→st.free kp q=false):QiF r (csE x)=false:=by
 cases hq:QiF r (csE x) with
 | false=>rfl
 | true =>
  have:x.has r=true:=by
   cases x with
   | agg l=>simp only [csE] at hq;simp only [EV.has];exact hq
   | _=>simp only [csE,QiF,Bool.or_false] at hq;exact hq
  rw [hx r this] at h;cases h
theorem Qsu {r t:Nat} {l:List (Nat×EV)} (h:(look EV.any l t).has r=true):Vb r l=true:=by
 induction l with
 | nil=>simp [look,EV.has] at h
 | cons p l ih =>
  obtain ⟨k,x⟩:=p;rw [Qb] at h;simp only [Vb,Bool.or_eq_true];split at h
  ·exact .inl h
  ·exact .inr (ih h)
theorem QvH (S:Sub vs bs st) (x:Operand) (q:Nat) (h:(Qw vs x).has q=true):st.free kp q=false:=by
 rcases S.e x with k | k
 ·rw [k] at h;simp [EV.has] at h
 ·rw [← k] at h
  cases x with
  | tmp t =>
   have:=Qsu (l:=st.slots) h;unfold ES.free;rw [this];simp
  | const c=>simp [ES.ev,Qw,EV.has] at h
  | func f=>simp [ES.ev,Qw,EV.has] at h
  | global g=>simp [ES.ev,Qw,EV.has] at h
theorem QvI {T:TypeId} {x:Operand} {R:RS} (S:Sub vs bs st) (h:Qvj d T (Qw vs x)=some R) (hC:∀ c∈R.C,c) (hf:∀ p∈R.hp,st.free kp p.1=true) (hd:Qza d n=true):Qf P E kp n ops ⟨some d,.box T x,ty,ps,af,none⟩ st.as (R.app st).as:=by
 unfold Qvj at h;split at h
 ·next m f hx =>
  cases h;have hfr:=hf (nmB d,.bz m f T) (by simp);have ho:=hC (∀ i,i < m→YF (f i)=true∧(f i).sh=true) (by simp);have gx:=S.v x;rw [hx] at gx;refine (Qxj (y:=.agg ((azC m f).map AV.p)) (nmB d) (gx.trans Gv.agg') (QfO (fun i hi=>(ho i hi).1) (fun i hi=>(ho i hi).2)) (Qdv _ _) (by rw [Zc];exact hfr) hd).cast ?_;rfl
 ·cases hc:Q6 (csE (Qw vs x)) with
  | false=>rw [hc] at h;cases h
  | true =>
   rw [hc] at h;cases h;have hfr:=hf (nmB d,.box (csE (Qw vs x)) T) (by simp);refine (Qxj (nmB d) (S.v x) (by rw [Qhu _ hc];exact Yr _ hc) (by rw [Qhu _ hc,Qcx];exact QvG hfr (QvH S x)) (by rw [Zc];exact hfr) hd).cast ?_;rw [Qhu _ hc];rfl
theorem QcA (S:Sub vs bs st):∀ {parts:List (Nat×Operand)},(∀ p∈Vd vs parts,p.2≠EV.any)→(parts.map fun p=>(p.1,st.as.ev p.2))=(Vd vs parts).map fun p=>(p.1,p.2.av)
 | [],_=>rfl
 | (i,x)::l,h=>by
  simp only [Vd,Qzb];rw [QcA S (fun p hp=>h p (by simp only [Vd];exact Qzk _ hp)),S.eq (h (i,Qw vs x) (by simp [Vd]))]
theorem Qp7 {T:TypeId} {parts:Array (Nat×Operand)} {R:RS} (hP:tab.ok P) (S:Sub vs bs st) (h:QmO tab vs d T parts.toList=some R) (hd:Qza d n=true):Qf P E kp n ops ⟨some d,.build T parts,ty,ps,af,none⟩ st.as (R.app st).as:=by
 unfold QmO at h;split at h
 ·next pl _ _ z _ hti =>
  have hT:=TT.find_ok hP hti;split at h
  ·next l hl =>
   cases h;obtain ⟨k1,k2⟩:=QfR pl hl;have h2:parts=parts.toList.toArray:=by simp
   rw [h2];exact Qu2 (hT.st pl rfl) (hT.ze z rfl).1 (by rw [QeC,QcA S k2];exact k1) hd
  ·cases h
 ·next m s e _ _ z _ hti =>
  have hT:=TT.find_ok hP hti;split at h
  ·next l hl =>
   cases h;obtain ⟨k1,k2⟩:=QfR _ hl;have h2:parts=parts.toList.toArray:=by simp
   rw [h2]
   have hp:∀ (m o:Nat),((Qvi s m o).map fun p=>(p.1,p.2.1))=(Qzq m).map fun i=>(o+i * s,s):=by
    intro m
    induction m with
    | zero=>intro o;rfl
    | succ m ih =>
     intro o;rw [List.range_succ_eq_map,Qzb,List.map_map];simp only [Qvi,Qzb,ih,QzG,Nat.add_zero];congr 1;apply QzE;intro i _;show (o+s+i * s,s)=(o+(i+1) * s,s);rw [Qy9];congr 1;omega
   have hp0:=hp m 0;simp only [QzF] at hp0;exact QpX (hT.ar m s e rfl).1 (hT.ze z rfl).1 (by rw [QeC,QcA S k2,← hp0];exact k1) hd
  ·cases h
 ·cases h
theorem Qol {sz:Nat} (len:Nat) (hsz:0 < sz):∀ {parts:List (Nat×EV)} {l:List EV} (k:Nat) (cells:List AV),Qsc sz k parts=some l→k+parts.length=len→cells.length=len * sz →
  Vu ((Qzq len).map fun i=>(i * sz,sz)) cells (parts.map fun p=>(p.1,p.2.av))=some (cells.take (k * sz)++avL l)∧(∀ p∈parts,p.2≠.any)∧Q6 l=true∧shL l=true∧l.length=parts.length * sz
 | [],l,k,cells,h,hk,hl=>by
  unfold Qsc at h;cases h;refine ⟨?_,by simp,rfl,rfl,by simp⟩;simp only [List.map_nil,Vu,avL,List.append_nil];rw [Qzy];simp only [Qzl] at hk;rw [hl,← hk];simp
 | (i,x)::rest,l,k,cells,h,hk,hl=>by
  unfold Qsc at h
  cases hc:Qy4 i k && Qy4 (csE x).length sz && Q6 (csE x) && shL (csE x) with
  | false=>rw [hc] at h;cases h
  | true =>
   rw [hc] at h;simp only [cond_true] at h;simp only [Qy3] at hc;obtain ⟨⟨⟨c1,c2⟩,c3⟩,c4⟩:=hc;have e1:=Qe c1;subst e1;have e2:=Qe c2;split at h
   ·next m hm =>
    cases h;simp only [Qy6] at hk;have hi:i < len:=by omega
    have hin:i * sz+sz≤cells.length:=by
     rw [hl];have:(i+1) * sz≤len * sz:=Qze _ hi;rw [Qy9] at this;exact this
    have hcs:=Qhu x c3;have hpl:(QD cells (i * sz) (avL (csE x))).length=len * sz:=by rw [Zj];exact hl
    obtain ⟨k1,k2,k3,k4,k5⟩:=Qol len hsz (i+1) (QD cells (i * sz) (avL (csE x))) hm (by omega) hpl;have hne:x≠.any:=fun e=>by subst e;simp [csE,Q6,YF] at c3
    have on:∀ (a b:List EV),Q6 a=true→Q6 b=true→Q6 (a++b)=true:=by
     intro a b ha hb
     induction a with
     | nil=>exact hb
     | cons y a ih=>simp only [Q6,Qy3,Qzt] at ha ⊢;exact ⟨ha.1,ih ha.2⟩
    have os:∀ (a b:List EV),shL a=true→shL b=true→shL (a++b)=true:=by
     intro a b ha hb
     induction a with
     | nil=>exact hb
     | cons y a ih=>simp only [shL,Qy3,Qzt] at ha ⊢;exact ⟨ha.1,ih ha.2⟩
    refine ⟨?_,fun p hp=>?_,on _ _ c3 k3,os _ _ c4 k4,by rw [List.length_append,e2,k5,Qy6,Qy9];omega⟩
    ·simp only [Qzb,Vu,Qy7,QzD hi,Qzw];rw [hcs,if_pos ⟨by rw [QJ];exact e2,hin,Yr _ c3⟩,k1];congr 1;rw [QmT,← List.append_assoc];congr 1;rw [QfQ _ _ _ (by rw [QJ,e2];exact hin),QJ,e2];have e3:(i+1) * sz=i * sz+sz:=Qy9 _ _;rw [e3,List.take_left' (by simp [QJ,e2];omega)]
    ·rcases List.mem_cons.1 hp with rfl | hp
     ·exact hne
     ·exact k2 p hp
   ·cases h
theorem VE:∀ {l:List EV} {q:List UInt8},QgZ l=some q→pvL l=q.map b8P∧q.length=l.length
 | [],q,h=>by unfold QgZ at h;cases h;exact ⟨rfl,rfl⟩
 | x::l,q,h=>by
  unfold QgZ at h;split at h
  ·next h0=>cases h0
  ·next c l' heq =>
   cases heq;split at h
   ·next m hm=>cases h;obtain ⟨h1,h2⟩:=VE hm;exact ⟨by simp [pvL,EV.pv,h1],by simp [h2]⟩
   ·cases h
  ·next m l' heq =>
   cases heq
   cases hb:Qza m 256 with
   | false=>rw [hb] at h;cases h
   | true =>
    rw [hb] at h;simp only [cond_true] at h;split at h
    ·next q' hq =>
     cases h;obtain ⟨h1,h2⟩:=VE hq;rw [Qzm] at hb;have e:((UInt8.ofNat m).toNat:Int)=Int.ofNat m:=by rw [UInt8.toNat_ofNat'];simp;omega
     exact ⟨by simp only [pvL,EV.pv,h1,Qzb,b8P,e],by simp [h2]⟩
    ·cases h
  ·cases h
theorem QcB {e sz by_:Nat} {z:List Value} (hP:tab.ok P) (h:Qdy tab e sz by_ z=true):P.underlying e=some (.int .u8)∧sz=1∧by_≤10000∧z=[.int .u8 0]:=by
 unfold Qdy at h;split at h
 ·next hti =>
  simp only [Qy3,Qzc] at h;refine ⟨(TT.find_ok hP hti).int _ rfl,Qe h.1.1,h.1.2,?_⟩;have h2:=h.2;split at h2
  ·rfl
  ·cases h2
 ·cases h
end
end
end Go.Proofs.YtcebndkiagbddaaGreatDoor
