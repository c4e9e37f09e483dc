/- A part of the proof: contracts of functions and what they stand on. Written shorter and merged by a program (pack.py). -/
import Derived.Test.YtcebndkiagbddaaGreatDoorK7
set_option linter.unusedVariables false
set_option linter.unusedSimpArgs false
set_option maxRecDepth 100000
set_option maxHeartbeats 4000000
open Bool renaming and_eq_true -> Qxo
open Nat renaming beq -> Qxp, succ_mul -> Qxu, blt -> Qxv, ble_eq -> Qxx, mul_le_mul_right -> Qxz, ble -> QxA, div_lt_iff_lt_mul -> QxD, mul_comm -> QxE, blt_eq -> QxH, div_add_mod -> QxJ, eq_zero_or_pos -> QxM, le_div_iff_mul_le -> QxU, eq_of_beq_eq_true -> QxV, mod_lt -> QxW, div_lt_of_lt_mul -> QxX, zero_add -> Qx0, zero_mul -> Qx1
open List renaming getElem?_eq_none -> Qxq, length_cons -> Qxr, getElem?_map -> Qxs, getD_eq_getElem?_getD -> Qxt, map_cons -> Qxw, ext_getElem? -> Qxy, getElem?_eq_getElem -> QxB, mem_range -> QxC, mem_cons_of_mem -> QxF, length_nil -> QxG, getElem?_set_self -> QxI, getElem?_set_ne -> QxK, range -> QxL, getElem?_take -> QxN, cons_append -> QxO, getElem?_cons_succ -> QxP, getElem?_cons_zero -> QxQ, length_map -> QxS, take_of_length_le -> QxT, getElem?_range -> QxY, map_congr_left -> QxZ
open Option renaming map_some -> QxR
namespace Go.Proofs.YtcebndkiagbddaaGreatDoor
section
open Go.RowKit
section
variable {P:Program} {E:Env} {kp:List Nat} {n:Nat} {ops:Array Oper} {d:Nat} {ty:TypeId} {ps:String} {af:Array Edge}
variable {tab:TT} {vs:List (Nat×EV)} {bs:List (Nat×EB)} {st:ES}
theorem VU:∀ (l:List EV),QL l=true->shL l=true->AV.toPs (avL l)=some (pvL l)
 | [],_,_=>rfl
 | x::xs,h,k=>by
  simp only [QL,shL,Qxo] at h k
  have e:x.av=.p x.pv:=by
   cases x <;> simp [ZN] at h <;> simp [EV.sh] at k <;> simp [EV.av,EV.pv]
  simp only [avL,pvL,e,AV.toPs,VU xs h.2 k.2,QxR]
theorem Qki {x:EV} (h:ZN x=true) (k:x.sh=true):x.av=.p x.pv:=by
 cases x <;> simp [ZN] at h <;> simp [EV.sh] at k <;> simp [EV.av,EV.pv]
theorem cs1 {x:EV} (h:ZN x=true):x.av.cs=[x.av]:=by
 cases x with
 | rp t=>cases t <;> rfl
 | _=>simp [ZN] at h <;> simp [EV.av,EV.pv,AV.cs,WS]
theorem Qdu {m:Nat} {g:Nat->EV} (h:∀ i,i < m->ZN (g i)=true) (k:∀ i,i < m->(g i).sh=true):WZ ((azC m g).map AV.p)=true:=by
 have key:∀ (l:List Nat),(∀ i∈l,ZN (g i)=true/\(g i).sh=true)->WZ ((l.map fun i=>(g i).pv).map AV.p)=true:=by
  intro l
  induction l with
  | nil=>intro _;rfl
  | cons a l ih =>
   intro hl;obtain ⟨h1,h2⟩:=hl a (by simp);simp only [Qxw,WZ,Qxo];exact ⟨by rw [<- Qki h1 h2];exact Qkh _ h1,ih fun i hi=>hl i (QxF _ hi)⟩
 exact key _ fun i hi=>⟨h i (QxC.1 hi),k i (QxC.1 hi)⟩
theorem Vh {α:Type} {l m:List α} (h:m.length=l.length):Qs l 0 m=m:=by
 rw [QeY m l (by omega),List.drop_of_length_le (by omega),List.append_nil]
theorem Qtq {m o:Nat} {f:Nat->EV} {y:EV} (h:o < m):((azC m f).map AV.p).set o (.p y.pv)=(azC m (fun a=>bif Qxp a o then y else f a)).map AV.p:=by
 apply Qxy;intro q;rw [List.getElem?_set];by_cases e:o=q
 ·subst e;rw [if_pos rfl,Qxs,Qgc h,if_pos (by simpa using h)];simp
 ·rw [if_neg e];simp only [azC,List.map_map,Qxs];by_cases hq:q < m
  ·rw [QxY hq]
   have:Qxp q o=false:=by
    cases hb:Qxp q o with
    | false=>rfl
    | true=>exact absurd (Qc hb).symm e
   simp [this]
  ·rw [Qxq (by simp;omega)];rfl
theorem Qv5 {m s i off:Nat} {f:Nat->Nat->EV} {l:List EV} (hi:i < m) (hl:off+l.length<=s) (h1:1<=l.length):Qs (lzC m s f) (i * s+off) (pvL l)=lzC m s (stZ f i off l):=by
 have hin:i * s+off+l.length<=m * s:=by
  have:(i+1) * s<=m * s:=Qxz _ hi;rw [Qxu] at this;omega
 apply Qxy;intro k;by_cases hk:k < m * s
 ·have hs:0 < s:=by omega
  have hb:k % s < s:=QxW _ hs;have ha:k / s < m:=(QxD hs).2 hk;have e:k / s * s+k % s=k:=by rw [QxE];exact QxJ k s
  have g1:=Ys m s f ha hb;have g2:=Ys m s (stZ f i off l) ha hb;rw [e] at g1 g2;rw [g2]
  have key:∀ (xs:List PV) (q:List PV) (o:Nat),o+xs.length<=q.length->(Qs q o xs)[k]? = if o<=k/\k < o+xs.length then xs[k - o]? else q[k]?:=by
   intro xs
   induction xs with
   | nil=>intro q o _;rw [if_neg (by simp only [QxG];omega)];rfl
   | cons x xs ih =>
    intro q o ho;rw [Qxr] at ho;show (Qs (q.set o x) (o+1) xs)[k]? = _;rw [ih (q.set o x) (o+1) (by rw [List.length_set];omega),Qxr];by_cases h1:o+1<=k/\k < o+1+xs.length
    ·rw [if_pos h1,if_pos (by omega),show k - o=(k - (o+1))+1 from by omega,QxP]
    ·rw [if_neg h1];by_cases h2:k=o
     ·subst h2;rw [if_pos (by omega),Nat.sub_self,QxQ,QxI (by omega)]
     ·rw [if_neg (by omega),QxK (by omega)]
  rw [key (pvL l) _ _ (by rw [Wp,Qk];exact hin),Qk]
  have hif:(i * s+off<=k/\k < i * s+off+l.length)↔(k / s=i/\off<=k % s/\k % s < off+l.length):=by
   constructor
   ·rintro ⟨q1,q2⟩
    have d:k / s=i:=by
     apply Nat.le_antisymm
     ·exact Nat.le_of_lt_succ ((QxD hs).2 (by rw [Qxu];omega))
     ·exact (QxU hs).2 (by omega)
    rw [d] at e;exact ⟨d,by omega,by omega⟩
   ·rintro ⟨d,q1,q2⟩;rw [d] at e;exact ⟨by omega,by omega⟩
  by_cases hq:i * s+off<=k/\k < i * s+off+l.length
  ·rw [if_pos hq];obtain ⟨d,q1,q2⟩:=hif.1 hq
   have c:(Qxp (k / s) i && (QxA off (k % s) && Qxv (k % s) (off+l.length)))=true:=by
    simp [d,Qxx,QxH,q1,q2]
   unfold stZ;rw [c,cond_true];rw [d] at e;rw [show k - (i * s+off)=k % s - off from by omega,Ji,Qxt,QxB (by omega)];rfl
  ·rw [if_neg hq,g1]
   have c:(Qxp (k / s) i && (QxA off (k % s) && Qxv (k % s) (off+l.length)))=false:=by
    cases hc:(Qxp (k / s) i && (QxA off (k % s) && Qxv (k % s) (off+l.length))) with
    | false=>rfl
    | true =>
     simp only [Qxo,Qxx,QxH] at hc;exact absurd (hif.2 ⟨QxV hc.1,hc.2.1,hc.2.2⟩) hq
   unfold stZ;rw [c,cond_false]
 ·rw [Qxq (by rw [WG,Wp];omega),Qxq (by rw [Wp];omega)]
theorem Qe4 {w:World} {Pub Pub':Nat->Nat->Prop} {ψ ψ':Qi} {f g:Nat×Nat->EV}:∀ (ps:List (Nat×Nat)) (us:List Value),(∀ p∈ps,∀ u,RA w Pub ψ (f p).av u->RA w Pub' ψ' (g p).av u)->RAs w Pub ψ (ps.map fun p=>(f p).av) us->RAs w Pub' ψ' (ps.map fun p=>(g p).av) us
 | [],us,_,h=>by simp only [List.map_nil] at h ⊢;unfold RAs at h ⊢;exact h
 | p::ps,us,hp,h=>by
  simp only [Qxw] at h ⊢;unfold RAs at h ⊢;obtain ⟨u,vs,e,k1,k2⟩:=h;exact ⟨u,vs,e,hp p (by simp) u k1,Qe4 ps vs (fun q hq=>hp q (QxF _ hq)) k2⟩
theorem QnA (n sz:Nat) (f:Nat->Nat->EV):avC n sz f=((QxL n).flatMap fun i=>(QxL sz).map fun j=>(i,j)).map fun p=>(f p.1 p.2).av:=by
 rw [List.map_flatMap];simp [avC,Function.comp_def]
theorem Qdv {w:World} {Pub Pub':Nat->Nat->Prop} {ψ ψ':Qi} {n sz:Nat} {f g:Nat->Nat->EV} {us:List Value} (h:∀ i,i < n -> ∀ j,j < sz -> ∀ u,RA w Pub ψ (f i j).av u->RA w Pub' ψ' (g i j).av u) (k:RAs w Pub ψ (avC n sz f) us):RAs w Pub' ψ' (avC n sz g) us:=by
 rw [QnA] at k ⊢;refine Qe4 (f:=fun p=>f p.1 p.2) (g:=fun p=>g p.1 p.2) _ _ (fun p hp u hu=>?_) k;rw [List.mem_flatMap] at hp;obtain ⟨i,hi,hp⟩:=hp;rw [List.mem_map] at hp;obtain ⟨j,hj,rfl⟩:=hp;exact h i (QxC.1 hi) j (QxC.1 hj) u hu
theorem QhH {α:Type}:∀ (xs q:List α) (o k:Nat),o+xs.length<=q.length->(Qs q o xs)[k]? = if o<=k/\k < o+xs.length then xs[k - o]? else q[k]?
 | [],q,o,k,_=>by rw [if_neg (by simp only [QxG];omega)];rfl
 | x::xs,q,o,k,ho=>by
  rw [Qxr] at ho;show (Qs (q.set o x) (o+1) xs)[k]? = _;rw [QhH xs (q.set o x) (o+1) k (by rw [List.length_set];omega),Qxr];by_cases h1:o+1<=k/\k < o+1+xs.length
  ·rw [if_pos h1,if_pos (by omega),show k - o=(k - (o+1))+1 from by omega,QxP]
  ·rw [if_neg h1];by_cases h2:k=o
   ·subst h2;rw [if_pos (by omega),Nat.sub_self,QxQ,QxI (by omega)]
   ·rw [if_neg (by omega),QxK (by omega)]
theorem Qtr {m s i off:Nat} {f:Nat->Nat->EV} {l:List EV} (hi:i < m) (h0:off+l.length<=s):Qs (avC m s f) (i * s+off) (avL l)=avC m s (stZ f i off l):=by
 have hin:i * s+off+l.length<=m * s:=by
  have:(i+1) * s<=m * s:=Qxz _ hi;rw [Qxu] at this;omega
 apply Qxy;intro k;rw [QhH _ _ _ _ (by rw [Z9,Qx];exact hin),Qx];by_cases hk:k < m * s
 ·have hs:0 < s:=by
   rcases QxM s with e | e
   ·subst e;simp at hk
   ·exact e
  have hb:k % s < s:=QxW _ hs;have ha:k / s < m:=(QxD hs).2 hk;have e:k / s * s+k % s=k:=by rw [QxE];exact QxJ k s
  have g1:=Qgd m s (fun a b=>(f a b).av) ha hb;have g2:=Qgd m s (fun a b=>(stZ f i off l a b).av) ha hb;rw [e] at g1 g2;rw [g2]
  have hif:(i * s+off<=k/\k < i * s+off+l.length)↔(k / s=i/\off<=k % s/\k % s < off+l.length):=by
   constructor
   ·rintro ⟨q1,q2⟩
    have d:k / s=i:=by
     apply Nat.le_antisymm
     ·exact Nat.le_of_lt_succ ((QxD hs).2 (by rw [Qxu];omega))
     ·exact (QxU hs).2 (by omega)
    rw [d] at e;exact ⟨d,by omega,by omega⟩
   ·rintro ⟨d,q1,q2⟩;rw [d] at e;exact ⟨by omega,by omega⟩
  by_cases hq:i * s+off<=k/\k < i * s+off+l.length
  ·rw [if_pos hq];obtain ⟨d,q1,q2⟩:=hif.1 hq
   have c:(Qxp (k / s) i && (QxA off (k % s) && Qxv (k % s) (off+l.length)))=true:=by
    simp [d,Qxx,QxH,q1,q2]
   unfold stZ;rw [c,cond_true];rw [d] at e;rw [show k - (i * s+off)=k % s - off from by omega,W2,Qxs,Qxt,QxB (by omega)];rfl
  ·rw [if_neg hq,g1]
   have c:(Qxp (k / s) i && (QxA off (k % s) && Qxv (k % s) (off+l.length)))=false:=by
    cases hc:(Qxp (k / s) i && (QxA off (k % s) && Qxv (k % s) (off+l.length))) with
    | false=>rfl
    | true =>
     simp only [Qxo,Qxx,QxH] at hc;exact absurd (hif.2 ⟨QxV hc.1,hc.2.1,hc.2.2⟩) hq
   unfold stZ;rw [c,cond_false]
 ·rw [if_neg (by omega),Qxq (by rw [Z9];omega),Qxq (by rw [Z9];omega)]
theorem QpM {i q:Nat} {x:EV} {ns:List Nat} (h:noL i x) {w:World} {Pub:Nat->Nat->Prop} {φ:Qi} {u:Value} (k:RA w Pub (loc φ ns) x.av u):RA w Pub (loc φ (ns.set i q)) x.av u:=by
 cases x
 case osl j m =>
  have hj:j≠i:=h;have e:loc φ (ns.set i q) j=loc φ ns j:=by unfold loc;rw [QxK (Ne.symm hj)]
  unfold EV.av RA at k ⊢;rw [e];exact k
 all_goals exact (XK _ u h).2 ((XK _ u h).1 k)
theorem QpN {w:World} {Pub:Nat->Nat->Prop} {ψ ψ':Qi} {n s i off:Nat} {f:Nat->Nat->EV} {l:List EV} {vs us:List Value} (hi:i < n) (ho:off+l.length<=s) (h1:RAs w Pub ψ (avC n s f) vs)
  (h2:∀ a,a < n -> ∀ b,b < s->(a=i/\off<=b/\b < off+l.length) \/ ∀ u,RA w Pub ψ (f a b).av u->RA w Pub ψ' (f a b).av u) (h3:RAs w Pub ψ' (avL l) us):RAs w Pub ψ' (avC n s (stZ f i off l)) (Qs vs (i * s+off) us):=by
 have h4:RAs w Pub ψ' (avC n s (stZ f i off (l.map fun _=>.any))) vs:=Qdv (fun a ha b hb u k=>by
  unfold stZ
  cases hc:(Qxp a i && (QxA off b && Qxv b (off+(l.map fun _=>EV.any).length))) with
  | true =>
   rw [cond_true]
   have:(l.map fun _=>EV.any).getD (b - off) .any=.any:=by
    rw [Qxt,Qxs];cases l[b - off]? <;> rfl
   rw [this];unfold EV.av RA;trivial
  | false =>
   rw [cond_false];rcases h2 a ha b hb with ⟨e1,e2,e3⟩ | h
   ·exfalso;rw [QxS] at hc;have:(Qxp a i && (QxA off b && Qxv b (off+l.length)))=true:=by simp [e1,Qxx,QxH,e2,e3]
    rw [this] at hc;cases hc
   ·exact h u k) h1
 have h5:=Qaf (i * s+off) h4 h3;rw [Qtr hi ho] at h5
 have e:avC n s (stZ (stZ f i off (l.map fun _=>.any)) i off l)=avC n s (stZ f i off l):=JT fun a _ b _=>by
  congr 1;unfold stZ;rw [QxS];cases (Qxp a i && (QxA off b && Qxv b (off+l.length))) <;> rfl
 rw [e] at h5;exact h5
theorem QnB {T:TypeId} {x y:Operand} {u v:EV} {R:RS} (hP:tab.ok P) (S:Sub vs bs st) (h:Qka tab bs T u v=some R) (hC:∀ c∈R.C,c) (hx:Gv (st.as.ev x) u.av) (hy:Gv (st.as.ev y) v.av) :
  Qd P E kp n ops ⟨none,.store T x y,ty,ps,af,none⟩ st.as (R.app st).as:=by
 unfold Qka at h
 cases hti:tab.find T with
 | none=>rw [hti] at h;cases h
 | some ti =>
  rw [hti] at h;have hT:=TT.find_ok hP hti;simp only at h;split at h
  ·next r off =>
   split at h
   ·next m f t hb =>
    have hob:st.as.ob r=.box ((azC m f).map AV.p) t:=S.ob hb (by simp);split at h
    ·next m' g =>
     obtain ⟨hc,h⟩:=QA h;cases h;simp only [Qxo] at hc;have e1:=Qc hc.1.1;have e2:=Qc hc.1.2;have e3:=Qc hc.2;subst e1 e3;have ho:=hC (∀ i,i < m'->ZN (g i)=true/\(g i).sh=true) (by simp);refine (YQ (v:=.agg ((azC m' g).map AV.p)) hx (hy.trans Gv.agg') hT.sz hob (by exact Qdu (fun i hi=>(ho i hi).1) (fun i hi=>(ho i hi).2)) (by simp [AV.cs,e2]) (by simp [e2])).cast ?_;show AS.mk _ ((r,OB.box (Qs ((azC m' f).map AV.p) 0 ((azC m' g).map AV.p)) t)::obs st.heap)=AS.mk _ ((r,OB.box ((azC m' g).map AV.p) t)::obs st.heap);rw [Vh (by simp)];rfl
    ·next l =>
     obtain ⟨hc,h⟩:=QA h;cases h;simp only [Qxo] at hc;have e1:=Qc hc.1.1.1;have e2:=Qc hc.1.1.2;have e3:=Qc hc.1.2;subst e1;refine (YQ (v:=.agg (avL l)) hx hy hT.sz hob (by exact ZC _ hc.2) (by simp [AV.cs,Qx,e2,e3]) (by simp [e2])).cast ?_;show AS.mk _ ((r,OB.box (Qs ((azC m f).map AV.p) 0 (avL l)) t)::obs st.heap)=AS.mk _ ((r,OB.box (avL l) t)::obs st.heap);rw [Vh (by simp [Qx,e3])];rfl
    ·obtain ⟨hc,h⟩:=QA h
     ·cases h;simp only [Qxo] at hc;have e1:=Qc hc.1.1;have hi:=hC (off < m) (by simp);have ea:=Qki hc.1.2 hc.2;refine (YQ hx hy hT.sz hob (by rw [cs1 hc.1.2];simp only [WZ,Bool.and_true];exact Qkh _ hc.1.2) (by rw [e1,cs1 hc.1.2];rfl) (by simp;omega)).cast ?_;rw [cs1 hc.1.2,ea];show AS.mk _ ((r,OB.box (((azC m f).map AV.p).set off (.p v.pv)) t)::obs st.heap)=AS.mk _ ((r,OB.box ((azC m (fun a=>bif Qxp a off then v else f a)).map AV.p) t)::obs st.heap);rw [Qtq hi];rfl
   ·next cells t hb =>
    split at h
    ·next m' g =>
     obtain ⟨hc,h⟩:=QA h;cases h;simp only [Qxo] at hc;have e1:=Qc hc.1.1;have e2:=Qc hc.1.2;have e3:=Qc hc.2;subst e1;have ho:=hC (∀ i,i < m'->ZN (g i)=true/\(g i).sh=true) (by simp);refine (YQ (v:=.agg ((azC m' g).map AV.p)) hx (hy.trans Gv.agg') hT.sz (S.ob hb (by simp)) (by exact Qdu (fun i hi=>(ho i hi).1) (fun i hi=>(ho i hi).2)) (by simp [AV.cs,e2]) (by rw [Qx];omega)).cast ?_;show AS.mk _ ((r,OB.box (Qs (avL cells) 0 ((azC m' g).map AV.p)) t)::obs st.heap)=AS.mk _ ((r,OB.box ((azC m' g).map AV.p) t)::obs st.heap);rw [Vh (by simp [Qx,e3])];rfl
    ·cases hc:Qxp (csE v).length ti.sz && QL (csE v) && QxA (off+ti.sz) cells.length with
    | false=>rw [hc] at h;cases h
    | true =>
     rw [hc] at h;simp only [cond_true] at h;simp only [Qxo,Qxx] at hc;split at h
     ·next c hq =>
      cases h;obtain ⟨h1,h2⟩:=Qdo hq;obtain ⟨z,hz1,hz2⟩:=QlQ v hc.1.2;have hlen:=Qc hc.1.1;refine (YQ hx (hy.trans hz1) hT.sz (S.ob hb (by simp)) (by rw [hz2];exact ZC _ hc.1.2) (by rw [hz2,Qx];exact hlen) (by rw [Qx];exact hc.2)).cast ?_;rw [hz2,h1];show AS.mk _ ((r,OB.box (Qs (avL cells) off (avL (csE v))) t)::obs st.heap)=AS.mk _ ((r,OB.box (avL (Qs cells off (csE v))) t)::obs st.heap);rw [QlP];rfl
     ·cases h
   ·cases h
  ·next r s i off =>
   split at h
   ·next l t pub hb =>
    cases hc:Qxp s 1 && Qxp off 0 && Qxp ti.sz 1 with
    | false=>rw [hc] at h;cases h
    | true =>
     rw [hc] at h;simp only [cond_true] at h;simp only [Qxo] at hc;have e1:=Qc hc.1.1;have e2:=Qc hc.1.2;have e3:=Qc hc.2;subst e1 e2;split at h
     ·next c hq =>
      cases h;have hi:=hC (i < l.length) (by simp);have hp:=hC (pub<=i) (by simp);refine (JQ (off:=i) (s:=1) (qs:=[b8P c]) (by simpa [EV.av] using hx) (hy.trans (Jh hq)) (by rw [hT.sz,e3]) (S.ob hb (by simp)) (by rfl) rfl rfl hp (by simp;omega)).cast ?_;show AS.mk _ ((r,OB.row (Qs (l.map b8P) i [b8P c]) t 1 pub)::obs st.heap)=AS.mk _ ((r,OB.row ((l.set i c).map b8P) t 1 pub)::obs st.heap);rw [Qpp];rfl
     ·cases h
   ·next cells t sz pub hb =>
    cases hc:Qxp (csE v).length ti.sz && QL (csE v) && shL (csE v) && QxA (i * s+off+ti.sz) cells.length with
    | false=>rw [hc] at h;cases h
    | true =>
     rw [hc] at h;simp only [cond_true] at h;simp only [Qxo,Qxx] at hc;split at h
     ·next c hq =>
      cases h;obtain ⟨h1,h2⟩:=Qdo hq;obtain ⟨z,hz1,hz2⟩:=QlQ v hc.1.1.2;have hlen:=Qc hc.1.1.1;have hp:=hC (pub<=i * s+off) (by simp);refine (JQ (qs:=pvL (csE v)) hx (hy.trans hz1) hT.sz (S.ob hb (by simp)) (by rw [hz2];exact ZC _ hc.1.1.2) (by rw [hz2];exact VU _ hc.1.1.2 hc.1.2) (by rw [Qk];exact hlen) hp (by rw [Qk];exact hc.2)).cast ?_;rw [h1];show AS.mk _ ((r,OB.row (Qs (pvL cells) (i * s+off) (pvL (csE v))) t sz pub)::obs st.heap)=AS.mk _ ((r,OB.row (pvL (Qs cells (i * s+off) (csE v))) t sz pub)::obs st.heap);rw [Qth];rfl
     ·cases h
   ·next m sz f t pub hb =>
    cases hc:Qxp s sz && Qxp (csE v).length ti.sz && QL (csE v) && shL (csE v) && QxA (off+ti.sz) sz && QxA 1 ti.sz with
    | false=>rw [hc] at h;cases h
    | true =>
     rw [hc] at h;simp only [cond_true] at h;cases h;simp only [Qxo,Qxx] at hc;obtain ⟨⟨⟨⟨⟨c1,c2⟩,c3⟩,c4⟩,c5⟩,c6⟩:=hc;have e1:=Qc c1;subst e1;have hlen:=Qc c2;obtain ⟨z,hz1,hz2⟩:=QlQ v c3;have hi:=hC (i < m) (by simp);have hp:=hC (pub<=i * s+off) (by simp)
     have hin:i * s+off+(csE v).length<=m * s:=by
      have:(i+1) * s<=m * s:=Qxz _ hi;rw [Qxu] at this;omega
     refine (JQ (qs:=pvL (csE v)) hx (hy.trans hz1) hT.sz (S.ob hb (by simp)) (by rw [hz2];exact ZC _ c3) (by rw [hz2];exact VU _ c3 c4) (by rw [Qk];exact hlen) hp (by rw [Wp];omega)).cast ?_;show AS.mk _ ((r,OB.row (Qs (lzC m s f) (i * s+off) (pvL (csE v))) t s pub)::obs st.heap)=AS.mk _ ((r,OB.row (lzC m s (stZ f i off (csE v))) t s pub)::obs st.heap);rw [Qv5 hi (by omega) (by omega)];rfl
   ·next m sz f t ns hb =>
    obtain ⟨hc,h⟩:=QA h;simp only [Qxo,Qxx] at hc;obtain ⟨⟨c1,c5⟩,c6⟩:=hc;have e1:=Qc c1;subst e1
    have hin:∀ k,i < m->off+k<=s->i * s+off+k<=m * s:=fun k hi hk=>by
     have:(i+1) * s<=m * s:=Qxz _ hi;rw [Qxu] at this;omega
    split at h
    ·next q mm _ =>
     obtain ⟨hc2,h⟩:=QA h;cases h;simp only [Qxo,QxH] at hc2;have e2:=Qc hc2.1;have hi:=hC (i < m) (by simp);have ho:=hC (∀ a,a < m -> ∀ b,b < s->(a=i/\b=off)\/noL i (f a b)) (by simp);refine (Qe0 (cells:=avC m s f) (cells':=avC m s (stZ f i off [.osl i mm])) (ns':=ns.set i q) hx hy hT.sz (S.ob hb (by simp)) rfl (by rw [e2];rfl) (by rw [Z9,Z9]) (by rw [Z9];exact hin _ hi c5) fun w Pub φ vs us k1 k2=>?_).cast rfl;refine QpN hi (by simp only [Qxr,QxG];omega) k1 (fun a ha b hb=>?_) ?_
     ·rcases ho a ha b hb with ⟨e3,e4⟩ | h
      ·exact .inl ⟨e3,by omega,by simp only [Qxr,QxG];omega⟩
      ·exact .inr fun u k=>QpM h k
     ·have e3:loc φ (ns.set i q) i=φ q:=Jg (by rw [QxI (by omega)]);simp only [avL,EV.av,AV.cs] at k2 ⊢;unfold RAs at k2 ⊢;obtain ⟨u,us',e,k3,k4⟩:=k2;refine ⟨u,us',e,?_,by unfold RAs at k4 ⊢;exact k4⟩;unfold RA at k3 ⊢;rw [e3];exact k3
    ·obtain ⟨hc2,h⟩:=QA h;cases h;simp only [Qxo] at hc2;obtain ⟨⟨c2,c3⟩,c4⟩:=hc2;have hlen:=Qc c2;have hi:=hC (i < m) (by simp);obtain ⟨z,hz1,hz2⟩:=QlQ v c3;refine (Qe0 (cells:=avC m s f) (cells':=avC m s (stZ f i off (csE v))) (ns':=ns) hx (hy.trans hz1) hT.sz (S.ob hb (by simp)) (by rw [hz2];exact ZC _ c3) (by rw [hz2,Qx];exact hlen) (by rw [Z9,Z9]) (by rw [Z9];exact hin _ hi c5) fun w Pub φ vs us k1 k2=>?_).cast rfl;refine QpN hi (by omega) k1 (fun a ha b hb=>.inr fun u k=>k) ?_;rw [hz2] at k2;exact (ZT _ _ c4).2 ((ZT _ _ c4).1 k2)
   ·cases h
  ·cases h
theorem Qts {T f:Nat} {x:Operand} {u y:EV} (hP:tab.ok P) (h:fldF tab T f u=some y) (hd:Qxv d n=true) {st:AS} (hx:Gv (st.ev x) u.av) :
  Qd P E kp n ops ⟨some d,.fieldAddr T x f,ty,ps,af,none⟩ st (st.put d y.av):=by
 unfold fldF at h;split at h
 ·next pl _ _ _ _ hti =>
  have hT:=(TT.find_ok hP hti).st pl rfl;split at h
  ·next o s _ hpl =>
   have hi:(pl.map fun p=>(p.1,p.2.1))[f]? = some (o,s+1):=by rw [Qxs,hpl];rfl
   split at h
   ·cases h;exact QcS hx hT hi (by omega) hd
   ·cases h;exact QeP hx hT hi (by omega) hd
   ·next r s' i off =>
    cases h;refine (QcS hx hT hi (by omega) hd).cast (Wq ?_);show AV.own r (i * s'+off+o)=AV.own r (i * s'+(off+o));rw [Nat.add_assoc]
   ·next m s' g i off =>
    cases h;refine (QeP (off:=i * s'+off) hx hT hi (by omega) hd).cast (Wq ?_);show AV.p (.pp _ (i * s'+off+o))=AV.p (.pp _ (i * s'+(off+o)));rw [Nat.add_assoc]
   ·cases h
  ·cases h
 ·cases h
theorem QlS {T:TypeId} {x y:Operand} {u v z:EV} {C:List Prop} (hP:tab.ok P) (h:Qpz tab T u v=some (C,z)) (hC:∀ c∈C,c) (hd:Qxv d n=true) {st:AS} (hx:Gv (st.ev x) u.av) (hy:Gv (st.ev y) v.av) :
  Qd P E kp n ops ⟨some d,.indexAddr T x y,ty,ps,af,none⟩ st (st.put d z.av):=by
 unfold Qpz at h
 cases hv:YV v with
 | none=>rw [hv] at h;cases h
 | some p =>
  obtain ⟨k,i⟩:=p;rw [hv] at h;simp only at h;have hy':=hy.trans (VQ hv);split at h
  ·next e s _ _ _ _ _ _ hti =>
   obtain ⟨_,hT,_⟩:=(TT.find_ok hP hti).sl e s _ _ rfl;split at h
   ·next l =>
    cases hc:Qxp s 1 with
    | false=>rw [hc] at h;cases h
    | true =>
     rw [hc] at h;cases h;have e1:=Qc hc;subst e1;have hb:=hC (0<=i/\i < (l.length:Int)) (by simp);refine (Qbe hy' hd (cells:=l.map b8P) (m:=l.length) hx hT hb.1 hb.2).cast (Wq ?_);rw [Nat.mul_one];rfl
   ·next m sz f =>
    cases hc:Qxp s sz with
    | false=>rw [hc] at h;cases h
    | true =>
     rw [hc] at h;cases h;have e1:=Qc hc;subst e1;have hb:=hC (0<=i/\i < (m:Int)) (by simp);exact (Qbe hy' hd hx hT hb.1 hb.2).cast (Wq (by simp [EV.av,EV.pv]))
   ·next cells m =>
    cases h;have hb:=hC (0<=i/\i < (m:Int)) (by simp);exact Qbe hy' hd hx hT hb.1 hb.2
   ·next r m =>
    cases h;have hb:=hC (0<=i/\i < (m:Int)) (by simp);exact (QjT (sz:=0) (pub:=0) (cells:=[]) (t:=0) hy' hd hx hT hb.1 hb.2).cast (Wq (by simp [EV.av]))
   ·cases h
  ·next m s _ _ _ _ _ hti =>
   obtain ⟨hT,_,_⟩:=(TT.find_ok hP hti).ar m s _ rfl;split at h
   ·cases h;have hb:=hC (0<=i/\i < (m:Int)) (by simp);exact QjU hy' hd hx hT hb.1 hb.2
   ·cases h;have hb:=hC (0<=i/\i < (m:Int)) (by simp);exact QfR hy' hd hx hT hb.1 hb.2
   ·cases h
  ·cases h
theorem Qv6 {T:TypeId} {x y:Operand} {u v z:EV} {C:List Prop} (hP:tab.ok P) (h:atF tab T u v=some (C,z)) (hC:∀ c∈C,c) (hd:Qxv d n=true) {st:AS} (hx:Gv (st.ev x) u.av) (hy:Gv (st.ev y) v.av) :
  Qd P E kp n ops ⟨some d,.index T x y,ty,ps,af,none⟩ st (st.put d z.av):=by
 unfold atF at h
 cases hv:YV v with
 | none=>rw [hv] at h;cases h
 | some p =>
  obtain ⟨k,i⟩:=p;rw [hv] at h;simp only at h;have hy':=hy.trans (VQ hv);split at h
  ·next hti =>
   split at h
   ·next l hl =>
    cases h;have hb:=hC (0<=i/\i < (l.length:Int)) (by simp);have e:=Zs hl;subst e;refine QjV hy' hd hx ((TT.find_ok hP hti).str rfl) hb.1 ?_;rw [Qxt,QxB (by omega)];rfl
   ·cases h
  ·next m e _ _ _ _ hti =>
   obtain ⟨_,hT,hs⟩:=(TT.find_ok hP hti).ar m 1 e rfl;split at h
   ·next hte =>
    have hE:=TT.find_ok hP hte;split at h
    ·next l =>
     split at h
     ·next q hq =>
      cases h;have hb:=hC (0<=i/\i < (m:Int)) (by simp);rw [Xh] at hq;exact QcT hy' hd hx hT hE.agg hs hb.1 hb.2 (by rw [Qau,hq];rfl)
     ·cases h
    ·next m' f =>
     obtain ⟨hc,h⟩:=QA h;cases h;simp only [Qxo] at hc;have e1:=Qc hc.2;subst e1;have hb:=hC (0<=i/\i < (m':Int)) (by simp);exact (QcT hy' hd (hx.trans Gv.agg') hT hE.agg hs hb.1 hb.2 (v:=.p (f i.toNat).pv) (by rw [Qxs,Qgc (by omega)];rfl)).gv (Gv.sh' hc.1)
    ·cases h
   ·cases h
  ·next m s e _ _ _ _ hns hti =>
   obtain ⟨_,hT,hs⟩:=(TT.find_ok hP hti).ar m s e rfl;split at h
   ·next hte =>
    have hE:=TT.find_ok hP hte;split at h
    ·next l =>
     split at h
     ·next q hq =>
      cases h;have hb:=hC (0<=i/\i < (m:Int)) (by simp);obtain ⟨h1,h2⟩:=Qbw hq;rw [VT] at h1;exact Qhi hy' hd hx hT hE.agg hs hb.1 hb.2 (by rw [<- Qdp,<- Qdq,<- h1])
     ·cases h
    ·cases h
   ·cases h
  ·cases h
end
end
section
open Go.RowKit
theorem Qav {m sz k i:Nat} {f:Nat->Nat->EV} (h:i+k<=m):((lzC m sz f).drop (i * sz)).take (k * sz)=lzC k sz (fun a b=>f (i+a) b):=by
 apply Qxy;intro q;rw [QxN];by_cases hq:q < k * sz
 ·rw [if_pos hq,List.getElem?_drop]
  have hs:0 < sz:=by
   rcases QxM sz with e | e
   ·subst e;omega
   ·exact e
  have h1:q / sz < k:=QxX (by rw [QxE];exact hq);have h2:=QxW q hs;have h3:=QxJ q sz;have e1:i * sz+q=(i+q / sz) * sz+q % sz:=by rw [Nat.add_mul,QxE (q / sz) sz];omega
  have e2:=Ys k sz (fun a b=>f (i+a) b) (i:=q / sz) (j:=q % sz) h1 h2;rw [QxE (q / sz) sz,h3] at e2;rw [e1,Ys m sz f (by omega) h2,e2]
 ·rw [if_neg hq,Qxq (by rw [Wp];omega)]
theorem Yk {m sz:Nat} {f g:Nat->Nat->EV} (h:∀ i,i < m -> ∀ j,j < sz->f i j=g i j):lzC m sz f=lzC m sz g:=by
 unfold lzC
 have:∀ l:List Nat,(∀ i∈l,i < m)->(l.flatMap fun i=>(QxL sz).map fun j=>(f i j).pv)=l.flatMap fun i=>(QxL sz).map fun j=>(g i j).pv:=by
  intro l
  induction l with
  | nil=>intro _;rfl
  | cons a l ih =>
   intro hl;rw [List.flatMap_cons,List.flatMap_cons,ih (fun i hi=>hl i (QxF _ hi))];congr 1;exact QxZ fun j hj=>by rw [h a (hl a (by simp)) j (QxC.1 hj)]
 exact this _ fun i hi=>QxC.1 hi
theorem Vi (n k sz:Nat) (f:Nat->Nat->EV):lzC (n+k) sz f=lzC n sz f++lzC k sz (fun a b=>f (n+a) b):=by
 have h1:=Qav (m:=n+k) (sz:=sz) (k:=n) (i:=0) (f:=f) (by omega);have h2:=Qav (m:=n+k) (sz:=sz) (k:=k) (i:=n) (f:=f) (by omega);have e:(fun a b=>f (0+a) b)=f:=by funext a b;rw [Qx0]
 rw [e] at h1;rw [<- h1,<- h2,Qx1,List.drop_zero];have hl:(lzC (n+k) sz f).length=(n+k) * sz:=Wp _ _ _;rw [QxT (l:=(lzC (n+k) sz f).drop (n * sz)) (by rw [List.length_drop,hl,Nat.add_mul];omega),List.take_append_drop]
theorem Qgf (k sz:Nat) (m:List EV) (h:m.length=k * sz):lzC k sz (fun a b=>m.getD (a * sz+b) .any)=pvL m:=by
 apply Qxy;intro q;by_cases hq:q < k * sz
 ·have hs:0 < sz:=by
   rcases QxM sz with e | e
   ·subst e;omega
   ·exact e
  have h1:q / sz < k:=QxX (by rw [QxE];exact hq);have h2:=QxW q hs;have h3:=QxJ q sz;have e2:=Ys k sz (fun a b=>m.getD (a * sz+b) .any) (i:=q / sz) (j:=q % sz) h1 h2;rw [QxE (q / sz) sz,h3] at e2;rw [e2,Ji,Qxt,QxB (by omega)];rfl
 ·rw [Qxq (by rw [Wp];omega),Qxq (by rw [Qk];omega)]
theorem Qe5 (x:EV) (h:QL (csE x)=true):x.av.cs=avL (csE x):=by
 cases x with
 | agg l=>rfl
 | tup l=>simp [csE,QL,ZN] at h
 | raw x=>simp [csE,QL,ZN] at h
 | cnd g x=>simp [csE,QL,ZN] at h
 | any=>simp [csE,QL,ZN] at h
 | az n f=>simp [csE,QL,ZN] at h
 | rp t=>cases t <;> rfl
 | _=>rfl
theorem Qcr:∀ z:List Value,Qcg z=avL (vsE z)
 | []=>rfl
 | x::z=>by
  have:=Qcr z;simp only [Qcg,Qxw] at this ⊢;simp only [vsE,avL,EV.av,this]
theorem Qdw {α:Type} (xs l:List α) (o:Nat) (h:o+xs.length<=l.length):Qs l o xs=l.take o++xs++l.drop (o+xs.length):=by
 induction xs generalizing l o with
 | nil=>simp [Qs]
 | cons x xs ih =>
  show Qs (l.set o x) (o+1) xs=_;simp only [Qxr] at h;rw [ih (l.set o x) (o+1) (by simp;omega)]
  have e1:(l.set o x).take (o+1)=l.take o++[x]:=by
   apply Qxy;intro i;rw [QxN,List.getElem?_set];by_cases h1:i < o
   ·rw [if_pos (by omega),if_neg (by omega),List.getElem?_append_left (by simp;omega),QxN,if_pos h1]
   ·by_cases h2:i=o
    ·subst h2;rw [if_pos (by omega),if_pos rfl,if_pos (by omega),List.getElem?_append_right (by simp;omega)];simp [show i - min i l.length=0 from by omega]
    ·rw [if_neg (by omega),Qxq (by simp;omega)]
  rw [e1,List.drop_set_of_lt (by omega)];simp only [List.append_assoc,QxO,List.nil_append,Qxr];rw [show o+1+xs.length=o+(xs.length+1) from by omega]
theorem Qdx (pl:List (Nat×Nat×Bool)):∀ {cells:List EV} {parts:List (Nat×EV)} {out:List EV},Qe2 pl cells parts=some out ->
  Y8 (pl.map fun p=>(p.1,p.2.1)) (avL cells) (parts.map fun p=>(p.1,p.2.av))=some (avL out) /\ ∀ p∈parts,p.2≠.any
 | cells,[],out,h=>by unfold Qe2 at h;cases h;exact ⟨rfl,by simp⟩
 | cells,(i,x)::rest,out,h=>by
  unfold Qe2 at h
  cases hi:pl[i]? with
  | none=>rw [hi] at h;cases h
  | some q =>
   obtain ⟨o,s,g⟩:=q;rw [hi] at h;simp only at h
   cases hc:Qxp (csE x).length s && QL (csE x) && QxA (o+s) cells.length with
   | false=>rw [hc] at h;cases h
   | true =>
    rw [hc] at h;simp only [cond_true] at h;simp only [Qxo,Qxx] at hc;obtain ⟨hc,hle⟩:=hc;have hlen:=Qc hc.1;split at h
    ·next c hq =>
     obtain ⟨h1,h2⟩:=Qdo hq;obtain ⟨k1,k2⟩:=Qdx pl h;have hcs:=Qe5 x hc.2;have hne:x≠.any:=fun e=>by subst e;simp [csE,QL,ZN] at hc
     refine ⟨?_,fun p hp=>?_⟩
     ·simp only [Qxw,Y8,Qxs,hi,QxR];rw [hcs];rw [if_pos ⟨by rw [Qx];exact hlen,by rw [Qx];exact hle,ZC _ hc.2⟩];rw [<- QlP,<- h1];exact k1
     ·rcases List.mem_cons.1 hp with rfl | hp
      ·exact hne
      ·exact k2 p hp
    ·cases h
end
section
open Go.RowKit
section
variable {P:Program} {E:Env} {kp:List Nat} {n:Nat} {ops:Array Oper} {d:Nat} {ty:TypeId} {ps:String} {af:Array Edge}
theorem Qby {st:AS} (t r:Nat) {m sz pub:Nat} {cells:List PV} {T:TypeId} (hx:Gv (look AV.any st.slots t) (.osl r m)) (hl:st.ob r=.row cells T sz pub) :
  Wk E kp n st ⟨(t,.p (.sl cells m))::st.slots,(r,.row cells T sz cells.length)::st.heap⟩:=by
 rintro a w ⟨φ,Pub,I,h0,hn,hsl⟩;obtain ⟨Pub',I',H,k1,k2⟩:=I.share hl (.inl rfl);refine ⟨φ,Pub',I',h0,hn,fun s=>?_⟩;simp only [Qb];split
 ·next e =>
  subst e;have k:=QeU k1 k2 (QF H _ _ (fun _ _=>rfl) (hx _ _ _ _ (hsl t)));simpa [shA] using k
 ·exact QF H _ _ (fun _ _=>rfl) (hsl s)
variable {tab:TT} {vs:List (Nat×EV)} {bs:List (Nat×EB)} {st:ES}
theorem QlT {st:AS}:Wk E kp n st st:=fun _ _ h=>h
theorem Qdy {x:Operand} {y:EV} {R:RS} (S:Sub vs bs st) (h:frz vs bs x=some (y,R)) (hC:∀ c∈R.C,c) :
  Wk E kp n st.as (R.app st).as/\Gv ((R.app st).as.ev x) y.av/\(∀ z,(∀ q m,Ql vs z≠.osl q m)->(R.app st).as.ev z=st.as.ev z):=by
 unfold frz at h;split at h
 ·next t =>
  split at h
  ·next r m hv =>
   have hx:Gv (look AV.any st.as.slots t) (.osl r m):=by
    have:=S.v (.tmp t);have e:Ql vs (.tmp t)=.osl r m:=hv;rw [e] at this;exact this
   have oth:∀ (y:AV) (H:List (Nat×OB)) (z:Operand),(∀ q m,Ql vs z≠.osl q m)->(AS.mk ((t,y)::st.as.slots) H).ev z=st.as.ev z:=fun y H z hz=>by
    cases z with
    | tmp t' =>
     show look AV.any ((t,y)::st.as.slots) t'=look AV.any st.as.slots t';rw [Qb,if_neg (fun e=>hz r m (by rw [<- e];exact hv))]
    | _=>rfl
   split at h
   ·next l T pub hb =>
    cases h;have e:m=l.length:=hC (m=l.length) (by simp);subst e;have k:=Qby (E:=E) (kp:=kp) (n:=n) t r hx (S.ob hb (by simp));rw [QxS] at k;refine ⟨k,?_,fun z hz=>oth _ _ z hz⟩;show Gv (look AV.any ((t,_)::_) t) _;rw [Qb,if_pos rfl];exact Gv.r
   ·next m' sz f T pub hb =>
    cases h;have e:m=m':=hC (m=m') (by simp);subst e;have k:=Qby (E:=E) (kp:=kp) (n:=n) t r hx (S.ob hb (by simp));rw [Wp] at k;refine ⟨?_,?_,fun z hz=>oth _ _ z hz⟩
    ·exact k
    ·show Gv (look AV.any ((t,_)::_) t) _;rw [Qb,if_pos rfl];exact Gv.r
   ·next cells T sz pub hb =>
    cases h;have k:=Qby (E:=E) (kp:=kp) (n:=n) t r hx (S.ob hb (by simp));rw [Qk] at k;refine ⟨k,?_,fun z hz=>oth _ _ z hz⟩;show Gv (look AV.any ((t,_)::_) t) _;rw [Qb,if_pos rfl];exact Gv.r
   ·cases h
  ·next y' hv =>
   cases h;exact ⟨QlT,S.v (.tmp t),fun _ _=>rfl⟩
 ·cases h;exact ⟨QlT,S.v _,fun _ _=>rfl⟩
theorem QpO {y:Option EV} {o:Option Int} (h:(match y with | none=>some none | some y=>(YV y).map fun p=>some p.2)=some o):(y=none/\o=none)\/∃ z k i,y=some z/\o=some i/\YV z=some (k,i):=by
 cases y with
 | none=>cases h;exact .inl ⟨rfl,rfl⟩
 | some z =>
  simp only at h
  cases hz:YV z with
  | none=>rw [hz] at h;cases h
  | some p =>
   obtain ⟨k,i⟩:=p;rw [hz] at h;cases h;exact .inr ⟨z,k,i,rfl,rfl,hz⟩
theorem Qtt {T:TypeId} {x:Operand} {lo hi:Option Operand} {u z:EV} {C:List Prop} (hP:tab.ok P) {st:AS} {f:Operand->EV} (h:cutF tab T u (lo.map f) (hi.map f)=some (C,z)) (hC:∀ c∈C,c) (hd:Qxv d n=true) (hx:Gv (st.ev x) u.av)
  (hf:∀ y,(lo=some y\/hi=some y)->(YV (f y)).isSome=true->Gv (st.ev y) (f y).av):Qd P E kp n ops ⟨some d,.slice T x lo hi none,ty,ps,af,none⟩ st (st.put d z.av):=by
 unfold cutF at h;split at h
 ·next lo' hi' h1 h2 =>
  have g1:=QpO h1;have g2:=QpO h2
  have i1:∀ i,lo'=some i->∃ y k,lo=some y/\Gv (st.ev y) (.p (.v (.int k i))):=fun i hi=>by
   rcases g1 with ⟨_,e⟩ | ⟨z,k,j,e1,e2,e3⟩
   ·rw [e] at hi;cases hi
   ·rw [e2] at hi;cases hi
    cases lo with
    | none=>cases e1
    | some y=>cases e1;exact ⟨y,k,rfl,(hf y (.inl rfl) (by rw [e3];rfl)).trans (VQ e3)⟩
  have i2:∀ i,hi'=some i->∃ y k,hi=some y/\Gv (st.ev y) (.p (.v (.int k i))):=fun i hq=>by
   rcases g2 with ⟨_,e⟩ | ⟨z,k,j,e1,e2,e3⟩
   ·rw [e] at hq;cases hq
   ·rw [e2] at hq;cases hq
    cases hi with
    | none=>cases e1
    | some y=>cases e1;exact ⟨y,k,rfl,(hf y (.inr rfl) (by rw [e3];rfl)).trans (VQ e3)⟩
  have n1:lo'=none->lo=none:=fun e=>by
   rcases g1 with ⟨e1,_⟩ | ⟨z,k,j,e1,e2,e3⟩
   ·cases lo with
    | none=>rfl
    | some y=>cases e1
   ·rw [e2] at e;cases e
  have n2:hi'=none->hi=none:=fun e=>by
   rcases g2 with ⟨e1,_⟩ | ⟨z,k,j,e1,e2,e3⟩
   ·cases hi with
    | none=>rfl
    | some y=>cases e1
   ·rw [e2] at e;cases e
  clear h1 h2 g1 g2;split at h
  ·next hti =>
   have hT:=(TT.find_ok hP hti).str rfl;split at h
   ·next l hl =>
    have e:=Zs hl;subst e
    cases lo' with
    | none =>
     obtain rfl:=n1 rfl
     cases hi' with
     | none=>cases h
     | some j =>
      obtain ⟨y,k,rfl,hy⟩:=i2 j rfl;cases h;have hb:=hC (0<=j/\j<=(l.length:Int)) (by simp);exact QsM hx hT hd hy hb.1 hb.2
    | some i =>
     obtain ⟨y,k,rfl,hy⟩:=i1 i rfl
     cases hi' with
     | none =>
      obtain rfl:=n2 rfl;cases h;have hb:=hC (0<=i/\i<=(l.length:Int)) (by simp);exact QsL hx hT hd hy hb.1 hb.2
     | some j =>
      obtain ⟨y2,k2,rfl,hy2⟩:=i2 j rfl;cases h;have hb:=hC (0<=i/\i<=j/\j<=(l.length:Int)) (by simp);exact Qno hx hT hd hy hy2 hb.1 hb.2.1 hb.2.2
   ·cases h
  ·next e s _ _ _ _ _ _ hti =>
   obtain ⟨_,hT,_⟩:=(TT.find_ok hP hti).sl e s _ _ rfl;split at h
   ·next l =>
    cases hc:Qxp s 1 with
    | false=>rw [hc] at h;cases h
    | true =>
     rw [hc] at h;simp only [cond_true] at h;have e1:=Qc hc;subst e1
     cases lo' with
     | none =>
      obtain rfl:=n1 rfl
      cases hi' with
      | none=>cases h
      | some j =>
       obtain ⟨y,k,rfl,hy⟩:=i2 j rfl;cases h;have hb:=hC (0<=j/\j<=(l.length:Int)) (by simp);exact QvR hx hT hd hy rfl hb.1 hb.2
     | some i =>
      obtain ⟨y,k,rfl,hy⟩:=i1 i rfl
      cases hi' with
      | none =>
       obtain rfl:=n2 rfl;cases h;have hb:=hC (0<=i/\i<=(l.length:Int)) (by simp);exact QvQ hx hT hd hy rfl hb.1 hb.2
      | some j =>
       obtain ⟨y2,k2,rfl,hy2⟩:=i2 j rfl;cases h;have hb:=hC (0<=i/\i<=j/\j<=(l.length:Int)) (by simp);exact Qpj hx hT hd hy hy2 rfl rfl hb.1 hb.2.1 hb.2.2
   ·next m sz g =>
    cases hc:Qxp s sz with
    | false=>rw [hc] at h;cases h
    | true =>
     rw [hc] at h;simp only [cond_true] at h;have e1:=Qc hc;subst e1;have hx':Gv (st.ev x) (.p (.sl (lzC m s g) m)):=by simpa [EV.av,EV.pv] using hx
     have hlen:m * s<=(lzC m s g).length:=by rw [Wp];exact Nat.le_refl _
     cases lo' with
     | none =>
      obtain rfl:=n1 rfl
      cases hi' with
      | none=>cases h
      | some j =>
       obtain ⟨y,k,rfl,hy⟩:=i2 j rfl;cases h;have hb:=hC (0<=j/\j<=(m:Int)) (by simp);refine (Qph hx' hT hlen hd hy hb.1 hb.2).cast (Wq ?_);have k:=Qav (m:=m) (sz:=s) (k:=j.toNat) (i:=0) (f:=g) (by omega);have e:(fun a b=>g (0+a) b)=g:=by funext a b;rw [Qx0]
       rw [Qx1,List.drop_zero,e] at k;rw [k];simp [EV.av,EV.pv]
     | some i =>
      obtain ⟨y,k,rfl,hy⟩:=i1 i rfl
      cases hi' with
      | none =>
       obtain rfl:=n2 rfl;cases h;have hb:=hC (0<=i/\i<=(m:Int)) (by simp);refine (Qpg hx' hT hlen hd hy hb.1 hb.2).cast (Wq ?_);rw [Qav (by omega)];simp [EV.av,EV.pv]
      | some j =>
       obtain ⟨y2,k2,rfl,hy2⟩:=i2 j rfl;cases h;have hb:=hC (0<=i/\i<=j/\j<=(m:Int)) (by simp);refine (Qhk hx' hT hlen hd hy hy2 hb.1 hb.2.1 hb.2.2).cast (Wq ?_);rw [Qav (by omega)];simp [EV.av,EV.pv]
   ·cases h
  ·cases h
 ·cases h
theorem QnC {T:TypeId} {R:RS} (hP:tab.ok P) (h:Qf5 tab d T=some R) (hf:∀ p∈R.hp,st.free kp p.1=true) (hd:Qxv d n=true):Qd P E kp n ops ⟨some d,.alloc T,ty,ps,af,none⟩ st.as (R.app st).as:=by
 unfold Qf5 at h;split at h
 ·next z _ hti =>
  cases h;obtain ⟨h1,h2⟩:=(TT.find_ok hP hti).ze z rfl;have hfr:=hf (nmB d,.box (vsE z) T) (by simp);refine (QsK (nmB d) h1 h2 (by rw [Wz];exact hfr) hd).cast ?_;rw [Qcr];rfl
 ·cases h
theorem Qtu {r:Nat} {x:EV} {st:ES} (h:st.free kp r=true) (hx:∀ q,x.has q=true->st.free kp q=false):Qf3 r (csE x)=false:=by
 cases hq:Qf3 r (csE x) with
 | false=>rfl
 | true =>
  have:x.has r=true:=by
   cases x with
   | agg l=>simp only [csE] at hq;simp only [EV.has];exact hq
   | _=>simp only [csE,Qf3,Bool.or_false] at hq;exact hq
  rw [hx r this] at h;cases h
theorem QpP {r t:Nat} {l:List (Nat×EV)} (h:(look EV.any l t).has r=true):YU r l=true:=by
 induction l with
 | nil=>simp [look,EV.has] at h
 | cons p l ih =>
  obtain ⟨k,x⟩:=p;rw [Qb] at h;simp only [YU,Bool.or_eq_true];split at h
  ·exact .inl h
  ·exact .inr (ih h)
theorem Qtv (S:Sub vs bs st) (x:Operand) (q:Nat) (h:(Ql vs x).has q=true):st.free kp q=false:=by
 rcases S.e x with k | k
 ·rw [k] at h;simp [EV.has] at h
 ·rw [<- k] at h
  cases x with
  | tmp t =>
   have:=QpP (l:=st.slots) h;unfold ES.free;rw [this];simp
  | const c=>simp [ES.ev,Ql,EV.has] at h
  | func f=>simp [ES.ev,Ql,EV.has] at h
  | global g=>simp [ES.ev,Ql,EV.has] at h
theorem Qtw {T:TypeId} {x:Operand} {R:RS} (S:Sub vs bs st) (h:Qs7 d T (Ql vs x)=some R) (hC:∀ c∈R.C,c) (hf:∀ p∈R.hp,st.free kp p.1=true) (hd:Qxv d n=true):Qd P E kp n ops ⟨some d,.box T x,ty,ps,af,none⟩ st.as (R.app st).as:=by
 unfold Qs7 at h;split at h
 ·next m f hx =>
  cases h;have hfr:=hf (nmB d,.bz m f T) (by simp);have ho:=hC (∀ i,i < m->ZN (f i)=true/\(f i).sh=true) (by simp);have gx:=S.v x;rw [hx] at gx;refine (Qvo (y:=.agg ((azC m f).map AV.p)) (nmB d) (gx.trans Gv.agg') (Qdu (fun i hi=>(ho i hi).1) (fun i hi=>(ho i hi).2)) (Qbr _ _) (by rw [Wz];exact hfr) hd).cast ?_;rfl
 ·cases hc:QL (csE (Ql vs x)) with
  | false=>rw [hc] at h;cases h
  | true =>
   rw [hc] at h;cases h;have hfr:=hf (nmB d,.box (csE (Ql vs x)) T) (by simp);refine (Qvo (nmB d) (S.v x) (by rw [Qe5 _ hc];exact ZC _ hc) (by rw [Qe5 _ hc,Qat];exact Qtu hfr (Qtv S x)) (by rw [Wz];exact hfr) hd).cast ?_;rw [Qe5 _ hc];rfl
theorem Qaw (S:Sub vs bs st):∀ {parts:List (Nat×Operand)},(∀ p∈YW vs parts,p.2≠EV.any)->(parts.map fun p=>(p.1,st.as.ev p.2))=(YW vs parts).map fun p=>(p.1,p.2.av)
 | [],_=>rfl
 | (i,x)::l,h=>by
  simp only [YW,Qxw];rw [Qaw S (fun p hp=>h p (by simp only [YW];exact QxF _ hp)),S.eq (h (i,Ql vs x) (by simp [YW]))]
theorem QnD {T:TypeId} {parts:Array (Nat×Operand)} {R:RS} (hP:tab.ok P) (S:Sub vs bs st) (h:Qkb tab vs d T parts.toList=some R) (hd:Qxv d n=true):Qd P E kp n ops ⟨some d,.build T parts,ty,ps,af,none⟩ st.as (R.app st).as:=by
 unfold Qkb at h;split at h
 ·next pl _ _ z _ hti =>
  have hT:=TT.find_ok hP hti;split at h
  ·next l hl =>
   cases h;obtain ⟨k1,k2⟩:=Qdx pl hl;have h2:parts=parts.toList.toArray:=by simp
   rw [h2];exact QsR (hT.st pl rfl) (hT.ze z rfl).1 (by rw [Qcr,Qaw S k2];exact k1) hd
  ·cases h
 ·next m s e _ _ z _ hti =>
  have hT:=TT.find_ok hP hti;split at h
  ·next l hl =>
   cases h;obtain ⟨k1,k2⟩:=Qdx _ hl;have h2:parts=parts.toList.toArray:=by simp
   rw [h2]
   have hp:∀ (m o:Nat),((Qs6 s m o).map fun p=>(p.1,p.2.1))=(QxL m).map fun i=>(o+i * s,s):=by
    intro m
    induction m with
    | zero=>intro o;rfl
    | succ m ih =>
     intro o;rw [List.range_succ_eq_map,Qxw,List.map_map];simp only [Qs6,Qxw,ih,Qx1,Nat.add_zero];congr 1;apply QxZ;intro i _;show (o+s+i * s,s)=(o+(i+1) * s,s);rw [Qxu];congr 1;omega
   have hp0:=hp m 0;simp only [Qx0] at hp0;exact Qnt (hT.ar m s e rfl).1 (hT.ze z rfl).1 (by rw [Qcr,Qaw S k2,<- hp0];exact k1) hd
  ·cases h
 ·cases h
theorem QlU {sz:Nat} (len:Nat) (hsz:0 < sz):∀ {parts:List (Nat×EV)} {l:List EV} (k:Nat) (cells:List AV),Qpx sz k parts=some l->k+parts.length=len->cells.length=len * sz ->
  Y8 ((QxL len).map fun i=>(i * sz,sz)) cells (parts.map fun p=>(p.1,p.2.av))=some (cells.take (k * sz)++avL l)/\(∀ p∈parts,p.2≠.any)/\QL l=true/\shL l=true/\l.length=parts.length * sz
 | [],l,k,cells,h,hk,hl=>by
  unfold Qpx at h;cases h;refine ⟨?_,by simp,rfl,rfl,by simp⟩;simp only [List.map_nil,Y8,avL,List.append_nil];rw [QxT];simp only [QxG] at hk;rw [hl,<- hk];simp
 | (i,x)::rest,l,k,cells,h,hk,hl=>by
  unfold Qpx at h
  cases hc:Qxp i k && Qxp (csE x).length sz && QL (csE x) && shL (csE x) with
  | false=>rw [hc] at h;cases h
  | true =>
   rw [hc] at h;simp only [cond_true] at h;simp only [Qxo] at hc;obtain ⟨⟨⟨c1,c2⟩,c3⟩,c4⟩:=hc;have e1:=Qc c1;subst e1;have e2:=Qc c2;split at h
   ·next m hm =>
    cases h;simp only [Qxr] at hk;have hi:i < len:=by omega
    have hin:i * sz+sz<=cells.length:=by
     rw [hl];have:(i+1) * sz<=len * sz:=Qxz _ hi;rw [Qxu] at this;exact this
    have hcs:=Qe5 x c3;have hpl:(Qs cells (i * sz) (avL (csE x))).length=len * sz:=by rw [WG];exact hl
    obtain ⟨k1,k2,k3,k4,k5⟩:=QlU len hsz (i+1) (Qs cells (i * sz) (avL (csE x))) hm (by omega) hpl;have hne:x≠.any:=fun e=>by subst e;simp [csE,QL,ZN] at c3
    have on:∀ (a b:List EV),QL a=true->QL b=true->QL (a++b)=true:=by
     intro a b ha hb
     induction a with
     | nil=>exact hb
     | cons y a ih=>simp only [QL,Qxo,QxO] at ha ⊢;exact ⟨ha.1,ih ha.2⟩
    have os:∀ (a b:List EV),shL a=true->shL b=true->shL (a++b)=true:=by
     intro a b ha hb
     induction a with
     | nil=>exact hb
     | cons y a ih=>simp only [shL,Qxo,QxO] at ha ⊢;exact ⟨ha.1,ih ha.2⟩
    refine ⟨?_,fun p hp=>?_,on _ _ c3 k3,os _ _ c4 k4,by rw [List.length_append,e2,k5,Qxr,Qxu];omega⟩
    ·simp only [Qxw,Y8,Qxs,QxY hi,QxR];rw [hcs,if_pos ⟨by rw [Qx];exact e2,hin,ZC _ c3⟩,k1];congr 1;rw [Qkg,<- List.append_assoc];congr 1;rw [Qdw _ _ _ (by rw [Qx,e2];exact hin),Qx,e2];have e3:(i+1) * sz=i * sz+sz:=Qxu _ _;rw [e3,List.take_left' (by simp [Qx,e2];omega)]
    ·rcases List.mem_cons.1 hp with rfl | hp
     ·exact hne
     ·exact k2 p hp
   ·cases h
theorem Xi:∀ {l:List EV} {q:List UInt8},QeL l=some q->pvL l=q.map b8P/\q.length=l.length
 | [],q,h=>by unfold QeL at h;cases h;exact ⟨rfl,rfl⟩
 | x::l,q,h=>by
  unfold QeL at h;split at h
  ·next h0=>cases h0
  ·next c l' heq =>
   cases heq;split at h
   ·next m hm=>cases h;obtain ⟨h1,h2⟩:=Xi hm;exact ⟨by simp [pvL,EV.pv,h1],by simp [h2]⟩
   ·cases h
  ·next m l' heq =>
   cases heq
   cases hb:Qxv m 256 with
   | false=>rw [hb] at h;cases h
   | true =>
    rw [hb] at h;simp only [cond_true] at h;split at h
    ·next q' hq =>
     cases h;obtain ⟨h1,h2⟩:=Xi hq;rw [QxH] at hb;have e:((UInt8.ofNat m).toNat:Int)=Int.ofNat m:=by rw [UInt8.toNat_ofNat'];simp;omega
     exact ⟨by simp only [pvL,EV.pv,h1,Qxw,b8P,e],by simp [h2]⟩
    ·cases h
  ·cases h
theorem Qax {e sz by_:Nat} {z:List Value} (hP:tab.ok P) (h:Qbu tab e sz by_ z=true):P.underlying e=some (.int .u8)/\sz=1/\by_<=10000/\z=[.int .u8 0]:=by
 unfold Qbu at h;split at h
 ·next hti =>
  simp only [Qxo,Qxx] at h;refine ⟨(TT.find_ok hP hti).int _ rfl,Qc h.1.1,h.1.2,?_⟩;have h2:=h.2;split at h2
  ·rfl
  ·cases h2
 ·cases h
end
end
end Go.Proofs.YtcebndkiagbddaaGreatDoor
