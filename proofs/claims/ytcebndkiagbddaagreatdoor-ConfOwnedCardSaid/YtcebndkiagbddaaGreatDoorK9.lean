/- A part of the proof: contracts of functions and what they stand on. Written shorter and merged by a program (pack.py). -/
import Derived.Test.YtcebndkiagbddaaGreatDoorK8
set_option linter.unusedVariables false
set_option linter.unusedSimpArgs false
set_option maxRecDepth 100000
set_option maxHeartbeats 4000000
open List renaming mem_singleton -> Qxo, mem_append_right -> Qxq, mem_append_left -> Qxs, getElem?_map -> Qxu, getElem?_eq_none -> Qxv, getElem?_eq_getElem -> Qxx, singleton_append -> Qxy, eq_nil_of_length_eq_zero -> Qxz, range_one -> QxA, getD_eq_getElem?_getD -> QxC, flatMap_cons -> QxD, flatMap_nil -> QxE, append_nil -> QxG, length_map -> QxH, getElem?_range -> QxJ
open Bool renaming and_eq_true -> Qxp
open Nat renaming blt -> Qxr, blt_eq -> Qxt, beq -> Qxw, mul_le_mul -> QxB, ble -> QxI
open Int renaming eq_ofNat_of_zero_le -> QxF
namespace Go.Proofs.YtcebndkiagbddaaGreatDoor
section
open Go.RowKit
section
variable {P:Program} {E:Env} {kp:List Nat} {n:Nat} {ops:Array Oper} {d:Nat} {ty:TypeId} {ps:String} {af:Array Edge}
variable {tab:TT} {vs:List (Nat×EV)} {bs:List (Nat×EB)} {st:ES}
theorem Qkj:∀ {l l':List EV} {k:Nat} {ns:List Nat},rnL k l=some (l',ns)->l'.length=l.length /\ ∀ (pre:List Nat),pre.length=k -> ∀ (w:World) (Pub:Nat->Nat->Prop) (φ:Qi) (us:List Value),RAs w Pub φ (avL l) us->RAs w Pub (loc φ (pre++ns)) (avL l') us
 | [],l',k,ns,h=>by
  simp only [rnL] at h;cases h;exact ⟨rfl,fun pre _ w Pub φ us k=>by unfold avL RAs at k ⊢;exact k⟩
 | x::xs,l',k,ns,h=>by
  unfold rnL at h;split at h
  ·next q m =>
   split at h
   ·next l2 ns2 h2 =>
    cases h;obtain ⟨a1,a2⟩:=Qkj h2;refine ⟨by simp [a1],fun pre hp w Pub φ us k=>?_⟩;unfold avL RAs at k ⊢;obtain ⟨u,vs,e,k1,k2⟩:=k;have e1:loc φ (pre++q::ns2) pre.length=φ q:=Jg (by simp);refine ⟨u,vs,e,?_,?_⟩
    ·unfold EV.av RA at k1 ⊢;rw [<- hp,e1];exact k1
    ·have:=a2 (pre++[q]) (by simp [hp]) w Pub φ vs k2;rw [List.append_assoc] at this;exact this
   ·cases h
  ·obtain ⟨hs,h⟩:=QA h;split at h
   ·next l2 ns2 h2 =>
    cases h;obtain ⟨a1,a2⟩:=Qkj h2;refine ⟨by simp [a1],fun pre hp w Pub φ us k=>?_⟩;unfold avL RAs at k ⊢;obtain ⟨u,vs,e,k1,k2⟩:=k;exact ⟨u,vs,e,(XK _ u hs).2 ((XK _ u hs).1 k1),a2 pre hp w Pub φ vs k2⟩
   ·cases h
theorem Qtx {l:List EV} {sz:Nat} (h:l.length=sz):avC 1 sz (fun _ j=>l.getD j .any)=avL l:=by
 unfold avC;simp only [QxA,QxD,QxE,QxG];apply List.ext_getElem?;intro q;rw [W2,Qxu,Qxu];by_cases hq:q < sz
 ·rw [QxJ hq,Qxx (by omega)];simp [QxC,Qxx (show q < l.length by omega)]
 ·rw [Qxv (by simpa using hq),Qxv (by omega)];rfl
theorem Qdz {T:TypeId} {len:Nat} {parts:Array (Nat×Operand)} {R:RS} (hP:tab.ok P) (S:Sub vs bs st) (h:Yp tab vs d T len parts.toList=some R) (hf:∀ p∈R.hp,st.free kp p.1=true) (hd:Qxr d n=true) :
  Qd P E kp n ops ⟨some d,.buildSlice T len parts,ty,ps,af,none⟩ st.as (R.app st).as:=by
 unfold Yp at h;split at h
 ·next e sz by_ z _ _ _ _ hti =>
  obtain ⟨_,_,hT,hsz,hz⟩:=(TT.find_ok hP hti).sl e sz by_ z rfl;split at h
  ·next l hl =>
   cases hc:Qxw parts.toList.length len && QxI (len * sz) 1000000 with
   | false=>rw [hc] at h;cases h
   | true =>
    rw [hc] at h;simp only [cond_true] at h;simp only [Qxp] at hc;have hlen:=Qc hc.1;obtain ⟨i,v,t1,t2,t3,t4,t5,t6,t7⟩:=XG hT;have hzl:z.length=sz:=by rw [<- t7];simpa using t6
    have hp:parts=parts.toList.toArray:=by simp
    have pl:(YW vs parts.toList).length=len:=by
     rw [<- hlen];generalize parts.toList=q
     induction q with
     | nil=>rfl
     | cons a q ih=>obtain ⟨i,x⟩:=a;simp [YW,ih]
    obtain ⟨k1,k2,k3,k4,k5⟩:=QlU len hsz 0 (Qcg (Wj z len)) hl (by omega) (by simp [Qcg,W7,hzl]);rw [Nat.zero_mul,List.take_zero,List.nil_append] at k1;rw [pl] at k5
    have fin:∀ (eb:EB),eb.ob=.row (pvL l) e sz 0->st.free kp (nmB d)=true->Qd P E kp n ops ⟨some d,.buildSlice T len parts,ty,ps,af,none⟩ st.as (RS.app ⟨[],[(d,.osl (nmB d) len)],[(nmB d,eb)]⟩ st).as:=fun eb heb hfr=>by
     rcases Nat.eq_zero_or_pos len with h0 | h0
     ·subst h0
      have hpn:parts = #[]:=by
       have:parts.toList=[]:=Qxz hlen;rw [hp,this]
      have hln:l=[]:=Qxz (by omega);rw [hpn];refine (QeJ (nmB d) hT (by rw [Wz];exact hfr) hd).cast ?_;rw [hln] at heb;simp only [RS.app,ES.as,Qxy,avs,obs,heb,pvL,EV.av]
     ·rw [hp];refine (QfV (nmB d) h0 hT hsz hz hc.2 (out:=avL l) (qs:=pvL l) (by rw [Qaw S k2];exact k1) (ZC _ k3) (VU _ k3 k4) (by rw [Qk];exact k5) (by rw [Wz];exact hfr) hd).cast ?_;simp only [RS.app,ES.as,Qxy,avs,obs,heb,EV.av]
    split at h
    ·next q hq =>
     obtain ⟨q1,q2⟩:=Xi hq
     cases hu:Qbu tab e sz by_ z with
     | false=>rw [hu] at h;cases h;exact fin _ rfl (hf (nmB d,EB.row l e sz 0) (Qxo.2 rfl))
     | true =>
      rw [hu] at h;cases h;refine fin _ ?_ (hf (nmB d,EB.rb q e 0) (Qxo.2 rfl));have hsz1:sz=1:=(Qax hP hu).2.1;show OB.row (q.map b8P) e 1 0=_;rw [q1,hsz1]
    ·cases h;exact fin _ rfl (hf (nmB d,EB.row l e sz 0) (Qxo.2 rfl))
  ·split at h
   ·next x hps =>
    split at h
    ·next l ns hr =>
     obtain ⟨hc,h⟩:=QA h;cases h;simp only [Qxp,Nat.ble_eq,Bool.not_eq_true'] at hc;obtain ⟨⟨⟨⟨c1,c2⟩,c3⟩,c4⟩,c5⟩:=hc;have e1:=Qc c1;have e2:=Qc c2;subst e1;obtain ⟨i,v,t1,t2,t3,t4,t5,t6,t7⟩:=XG hT;have hzl:z.length=sz:=by rw [<- t7];simpa using t6
     obtain ⟨a1,a2⟩:=Qkj hr;have hne:Ql vs x≠.any:=fun e=>by rw [e] at c3;simp [csE,QL,ZN] at c3
     have hp:parts=parts.toList.toArray:=by simp
     have hfr:=hf (nmB d,EB.ra 1 sz (fun _ j=>l.getD j .any) e ns) (Qxo.2 rfl);rw [hp,hps];refine (Qnv (ns:=ns) (nmB d) (by omega) hT hsz hz (by simp only [Nat.one_mul,Nat.ble_eq];exact c4) (out:=avL (csE (Ql vs x))) (qs:=avC 1 sz fun _ j=>l.getD j .any) ?_ (ZC _ c3) (fun w Pub φ us k=>by rw [Qtx (by omega)];exact a2 [] rfl w Pub φ us k) (by rw [Z9]) (by rw [Z9,Qx];omega) (by rw [Wz];exact hfr) c5 hd).cast rfl;simp only [List.map_cons,List.map_nil,QxA,Y8,List.getElem?_cons_zero];rw [S.eq hne,Qe5 _ c3,if_pos ⟨by rw [Qx];exact e2,by simp [Qcg,W7,hzl],ZC _ c3⟩];rw [Nat.zero_mul,Vh (by simp [Qcg,W7,hzl,Qx,e2])]
    ·cases h
   ·cases h
 ·cases h
theorem QpQ {T:TypeId} {x y:Operand} {u v:EV} {R:RS} (hP:tab.ok P) (h:QhD tab d T u v=some R) (hC:∀ c∈R.C,c) (hf:∀ p∈R.hp,st.free kp p.1=true) (hd:Qxr d n=true) (hx:Gv (st.as.ev x) u.av) (hy:Gv (st.as.ev y) v.av) :
  Qd P E kp n ops ⟨some d,.makeSlice T x y,ty,ps,af,none⟩ st.as (R.app st).as:=by
 unfold QhD at h;split at h
 ·next i j h1 h2 =>
  have e1:=ZW h1;have e2:=ZW h2;subst e1 e2;split at h
  ·next e sz by_ z _ _ _ _ hti =>
   obtain ⟨_,_,hT,hsz,hz⟩:=(TT.find_ok hP hti).sl e sz by_ z rfl;obtain ⟨ii,vv,t1,t2,t3,t4,t5,t6,t7⟩:=XG hT;have hzl:z.length=sz:=by rw [<- t7];simpa using t6
   have go:by_<=10000->(0<=i/\i<=j/\j<=1000000000) -> ∀ eb:EB,eb.ob=.row (WT z i.toNat) e sz 0->st.free kp (nmB d)=true->Qd P E kp n ops ⟨some d,.makeSlice T x y,ty,ps,af,none⟩ st.as (RS.app ⟨[0<=i/\i<=j/\j<=1000000000],[(d,.osl (nmB d) i.toNat)],[(nmB d,eb)]⟩ st).as:=fun hby hb eb heb hfr=>by
    obtain ⟨a,rfl⟩:=QxF hb.1;obtain ⟨b,rfl⟩:=QxF (Int.le_trans hb.1 hb.2.1)
    have hm:by_ * b<=281474976710656:=by
     have:by_ * b<=10000 * 1000000000:=QxB hby (by omega);omega
    refine (QvS (nmB d) hx hy hT hsz hz (by omega) hm (by omega) (by rw [Wz];exact hfr) hd).cast ?_;rw [Int.toNat_natCast] at heb;simp only [RS.app,ES.as,Qxy,avs,obs,heb,EV.av,Int.toNat_natCast]
   cases hu:Qbu tab e sz by_ z with
   | true =>
    rw [hu] at h;cases h;obtain ⟨_,hsz1,c2,c1⟩:=Qax hP hu;refine go c2 (hC _ (Qxo.2 rfl)) _ ?_ (hf (nmB d,EB.rb (List.replicate i.toNat 0) e 0) (Qxo.2 rfl));show OB.row ((List.replicate i.toNat 0).map b8P) e 1 0=_;rw [c1,Qc1,hsz1,List.map_replicate];rfl
   | false =>
    rw [hu] at h;simp only [cond_false] at h
    cases hb:QxI by_ 10000 with
    | false=>rw [hb] at h;cases h
    | true =>
     rw [hb] at h;cases h;refine go (Nat.le_of_ble_eq_true hb) (hC _ (Qxo.2 rfl)) _ ?_ (hf (nmB d,EB.rz i.toNat sz (zF z) e 0) (Qxo.2 rfl));show OB.row (lzC i.toNat sz (zF z)) e sz 0=_
     have:∀ k,lzC k sz (zF z)=WT z k:=by
      intro k
      induction k with
      | zero=>rfl
      | succ k ih =>
       have e0:=Vi 1 k sz (zF z);rw [Nat.add_comm 1 k] at e0;have e1:(fun a b=>zF z (1+a) b)=zF z:=rfl;rw [e0,e1,ih];show _=z.map .v++WT z k;congr 1;unfold lzC;simp only [QxA,QxD,QxE,QxG];apply List.ext_getElem?;intro q;rw [Qxu,Qxu,<- hzl];by_cases hq:q < z.length
       ·rw [QxJ hq,Qxx hq];simp [zF,EV.pv,QxC,hq]
       ·rw [Qxv (by simpa using hq),Qxv (by omega)];rfl
     rw [this]
  ·cases h
 ·cases h
def SrcE.pvs:SrcE->List PV
 | .by_ l=>l.map b8P
 | .lz n sz f=>lzC n sz f
 | .cs l _=>pvL l
def EB.pvs:EB->List PV
 | .rb l _ _=>l.map b8P
 | .rz n sz f _ _=>lzC n sz f
 | .row l _ _ _=>pvL l
 | _=>[]
theorem QlV {y:Operand} {v:EV} {src:SrcE} {C:List Prop} {sz:Nat} (S:Sub vs bs st) (h:srcF bs sz v=some (C,src)) (hC:∀ c∈C,c) (hs:src.szOk sz=true) (hC2:∀ c∈src.okC sz,c) (hsz:0 < sz) (hy:Gv (st.as.ev y) v.av) :
  QeV st.as sz (st.as.ev y) src.len src.pvs:=by
 unfold srcF at h;split at h
 ·next l =>
  cases h;have e:=Qc hs;subst e;exact QeV.sl hy (by simp [SrcE.len,SrcE.pvs]) hsz
 ·next m z f =>
  cases h;have e:=Qc hs;subst e;exact QeV.sl (cells:=lzC m z f) (by have h3:=hy;unfold EV.av EV.pv at h3;exact h3) (Wp m z f) hsz
 ·next l m =>
  cases h;have e:=hC2 (l.length=m * sz) (by simp [SrcE.okC]);exact QeV.sl hy ((Qk l).trans e) hsz
 ·cases h;exact QeV.nil hy
 ·next r m =>
  split at h
  ·next l t pub hb =>
   cases h;have e:=Qc hs;subst e;have e2:m=l.length:=hC (m=l.length) (by simp);subst e2;exact QeV.osl hy (S.ob hb (by simp)) (by simp [SrcE.len,SrcE.pvs]) hsz
  ·next m' z f t pub hb =>
   cases h;have e:=Qc hs;subst e;have e2:m=m':=hC (m=m') (by simp);subst e2;exact QeV.osl hy (S.ob hb (by simp)) (Wp m z f).symm hsz
  ·next l t z pub hb =>
   cases hz:Qxw z sz with
   | false=>rw [hz] at h;cases h
   | true =>
   rw [hz] at h;cases h;have e1:=Qc hz;subst e1;have e:=hC2 (l.length=m * z) (by simp [SrcE.okC]);exact QeV.osl hy (S.ob hb (by simp)) ((Qk l).trans e).symm hsz
  ·cases h
 ·cases h
theorem QpR {e:TypeId} {sz pub:Nat} {eb eb':EB} {src:SrcE} (h:QpB e sz pub eb src=some eb') (hk:eb.okSz sz e=true) (hs:src.szOk sz=true) (hC2:∀ c∈src.okC sz,c):eb'.ob=.row (eb.pvs++src.pvs) e sz pub/\eb.ob=.row eb.pvs e sz eb.pub:=by
 unfold QpB at h;split at h
 ·next l t p m =>
  cases h;simp only [EB.okSz,Qxp] at hk;have e1:=Qc hk.1;have e2:=Qc hk.2;subst e1 e2;exact ⟨by simp [EB.ob,EB.pvs,SrcE.pvs],rfl⟩
 ·next l t p c m =>
  split at h
  ·next q hq =>
   cases h;simp only [EB.okSz,Qxp] at hk;have e1:=Qc hk.1;have e2:=Qc hk.2;subst e1 e2;exact ⟨by simp [EB.ob,EB.pvs,SrcE.pvs,(Xi hq).1],rfl⟩
  ·cases h
 ·next l t z p m k =>
  cases h;simp only [EB.okSz,Qxp] at hk;have e1:=Qc hk.1;have e2:=Qc hk.2;subst e1 e2;exact ⟨by simp [EB.ob,EB.pvs,SrcE.pvs,JS],rfl⟩
 ·next n' z f t p m k =>
  cases hc:Qxw z sz with
  | false=>rw [hc] at h;cases h
  | true =>
   rw [hc] at h;cases h;simp only [EB.okSz,Qxp] at hk;have e1:=Qc hk.1;have e2:=Qc hk.2;subst e1 e2;have e3:=hC2 (m.length=k * z) (by simp [SrcE.okC]);refine ⟨?_,rfl⟩;show OB.row (lzC (n'+k) z _) t z pub=OB.row (lzC n' z f++pvL m) t z pub;rw [Vi,<- Qgf k z m e3];congr 2
   ·exact Yk fun i hi j hj=>by rw [show Qxr i n'=true from (Qxt).mpr hi];rfl
   ·exact Yk fun i hi j hj=>by
     have:Qxr (n'+i) n'=false:=by
      cases hb:Qxr (n'+i) n' with
      | false=>rfl
      | true=>rw [Qxt] at hb;omega
     rw [this,show n'+i - n'=i from by omega];rfl
 ·next n' z f t p k z2 g =>
  cases hc:Qxw z sz && Qxw z2 sz with
  | false=>rw [hc] at h;cases h
  | true =>
   rw [hc] at h;cases h;simp only [Qxp] at hc;simp only [EB.okSz,Qxp] at hk;have e1:=Qc hk.1;have e2:=Qc hk.2;have e3:=Qc hc.2;subst e1 e2 e3;refine ⟨?_,rfl⟩;show OB.row (lzC (n'+k) z2 _) t z2 pub=OB.row (lzC n' z2 f++lzC k z2 g) t z2 pub;rw [Vi];congr 2
   ·exact Yk fun i hi j hj=>by rw [show Qxr i n'=true from (Qxt).mpr hi];rfl
   ·exact Yk fun i hi j hj=>by
     have:Qxr (n'+i) n'=false:=by
      cases hb:Qxr (n'+i) n' with
      | false=>rfl
      | true=>rw [Qxt] at hb;omega
     rw [this,show n'+i - n'=i from by omega];rfl
 ·next l t z p k z2 g =>
  split at h
  ·next q hq =>
   cases hc:Qxw z2 sz && Qxr 0 sz with
   | false=>rw [hc] at h;cases h
   | true =>
    rw [hc] at h;cases h;simp only [Qxp] at hc;simp only [EB.okSz,Qxp] at hk;have e1:=Qc hk.1;have e2:=Qc hk.2;have e3:=Qc hc.1;subst e1 e2 e3;have hz:0 < z2:=by have:=hc.2;rwa [Qxt] at this
    have e4:l.length=q * z2:=by have:=Qf6 hz (by omega) hq;omega
    refine ⟨?_,rfl⟩;show OB.row (lzC (q+k) z2 _) t z2 pub=OB.row (pvL l++lzC k z2 g) t z2 pub;rw [Vi,<- Qgf q z2 l e4];congr 2
    ·exact Yk fun i hi j hj=>by rw [show Qxr i q=true from (Qxt).mpr hi];rfl
    ·exact Yk fun i hi j hj=>by
      have:Qxr (q+i) q=false:=by
       cases hb:Qxr (q+i) q with
       | false=>rfl
       | true=>rw [Qxt] at hb;omega
      rw [this,show q+i - q=i from by omega];rfl
  ·cases h
 ·cases h
theorem Qty {e:TypeId} {sz:Nat} {src:SrcE} (hs:src.szOk sz=true):(Qs8 e sz src).ob=.row src.pvs e sz 0:=by
 cases src with
 | by_ l=>have e1:=Qc hs;subst e1;rfl
 | lz m z f=>have e1:=Qc hs;subst e1;rfl
 | cs l m=>rfl
theorem QhI {st:AS} {T e:TypeId} {x y:Operand} {sz bytes m:Nat} {news:List PV} {z:List Value} (r' r0:Nat) (hx:Gv (st.ev x) (.p (.v (.slice none 0 0))))
  (hs:QeV st sz (st.ev y) m news) (hT:Qbh P T=some (e,sz,bytes,z)) (hsz:0 < sz) (hb:m * bytes<=140737488355328) (hm:m<=140737488355328) (hf:st.free kp r'=true) (hf0:st.free kp r0=true) (hne:r0≠r') (hd:Qxr d n=true) :
  Qd P E kp n ops ⟨some d,.call { callee:=.builtin .append,args:=#[x,y],argTypes:=#[T,T] },ty,ps,af,none⟩ st ⟨(d,.osl r' m)::st.slots,(r',.row news e sz 0)::st.heap⟩:=by
 refine Qd.val rfl fun a w ⟨φ,Pub,I,h0,hnn,hsl⟩=>?_;obtain ⟨f1,f2,f3,f4⟩:=Qu hf;obtain ⟨g1,g2,g3,g4⟩:=Qu hf0;obtain ⟨i,v,t1,t2,t3,t4,t5,t6,t7⟩:=XG hT;obtain ⟨ad,c,vs,e1,c1,c2⟩:=hs E kp φ Pub w _ I (Za (h:=st.heap) hsl y);have I0:=I.nilRow g1 g2 g4 e sz 0
 have hu:RA w Pub (fun q=>if q=r0 then none else φ q) (.osl r0 0) (a.eval x):=by
  unfold RA;exact .inr ⟨if_pos rfl,rfl,hx.v (Za (h:=st.heap) hsl x)⟩
 have hl0:look OB.dead ((r0,OB.row [] e sz 0)::st.heap) r0=.row [] e sz 0:=by rw [Qb,if_pos rfl]
 obtain ⟨v',w',g,hr,I',hR,H⟩:=I0.append (P:=P) (r':=r') hl0 hu (by simp) (by rw [Qb,if_neg hne];exact f1) (by simp only [WF,OB.has,Bool.false_or];exact f2) f4 T ty i v bytes t1 t2 t3 t4 t5 t6 hsz ad m c vs c1 c2 (by unfold maxLen;omega) (by simpa using hb);refine ⟨v',w',?_,?_⟩
 ·simp only [execOp,resolve,invoke,builtin,Sem.run_bind,Sem.run_pure,Result.andThen_ok,List.map_toArray,List.map_cons,List.map_nil,e1,hr]
 ·have k:=Sat.put I' h0 hnn (fun s=>Z6 H (Wf f3) (Z6 (r:=r0) (g:=none) (Adv.refl _ _) (Wf g3) (hsl s))) hd hR;refine k.congr (fun s=>?_) (fun r=>?_)
  ·show look AV.any ((d,.osl r' m)::st.slots) s=look AV.any ((d,.osl r' (0+m))::st.slots) s;rw [Nat.zero_add]
  ·show look OB.dead ((r',OB.row news e sz 0)::st.heap) r=look OB.dead ((r',OB.row ([]++news) e sz 0)::(r0,.dead)::(r0,.row [] e sz 0)::st.heap) r;rw [List.nil_append,Qb,Qb];split
   ·rfl
   ·rw [Qb];split
    ·next e2=>subst e2;cases hz:look OB.dead st.heap r0 <;> rw [hz] at g1 <;> first | rfl | cases g1
    ·next e2=>rw [Qb,if_neg e2]
theorem Qv7 {n q:Nat} {x:EV} {ns:List Nat} (h:Qf4 x) (hn:n < ns.length) {w:World} {Pub:Nat->Nat->Prop} {φ:Qi} {u:Value} (k:RA w Pub (loc φ [q]) x.av u):RA w Pub (loc φ (ns.set n q)) (toL n x).av u:=by
 cases x
 case osl j m =>
  have hj:j=0:=h;subst hj;have e1:loc φ [q] 0=φ q:=Jg rfl;have e2:loc φ (ns.set n q) n=φ q:=Jg (by rw [List.getElem?_set_self hn]);unfold toL;unfold EV.av RA at k ⊢;rw [e1] at k;rw [e2];exact k
 all_goals exact (XK _ u h).2 ((XK _ u h).1 k)
theorem Qtz {n sz:Nat} {f g:Nat->Nat->EV}:avC (n+1) sz (raJ n f g)=avC n sz f++avC 1 sz (fun a b=>toL n (g a b)):=by
 unfold avC;rw [List.range_succ,List.flatMap_append];congr 1
 ·exact JT fun i hi j _=>by unfold raJ;rw [show Qxr i n=true from Qxt.mpr hi];rfl
 ·simp only [QxD,QxE,QxG,QxA];refine List.map_congr_left fun j _=>?_
  have:Qxr n n=false:=by
   cases hb:Qxr n n with
   | false=>rfl
   | true=>rw [Qxt] at hb;omega
  unfold raJ;rw [this];rfl
theorem Qv8 {T e:TypeId} {x y:Operand} {sz by_:Nat} {z:List Value} {u v:EV} {R:RS} (S:Sub vs bs st) (h:raA bs d e sz u v=some R) (hC:∀ c∈R.C,c) (hf:∀ p∈R.hp,(ob_ bs p.1).alive=true\/st.free kp p.1=true) (hnd:(ob_ bs (nmB d)).alive=false)
  (hd:Qxr d n=true) (hT:Qbh P T=some (e,sz,by_,z)) (hsz:0 < sz) (hby:by_<=10000) (hx:Gv (st.as.ev x) u.av) (hy:Gv (st.as.ev y) v.av) :
  Qd P E kp n ops ⟨some d,.call { callee:=.builtin .append,args:=#[x,y],argTypes:=#[T,T] },ty,ps,af,none⟩ st.as (R.app st).as:=by
 unfold raA at h;split at h
 ·next r m =>
  split at h
  ·next r2 m2 =>
   split at h
   ·next k z1 f t ns hb =>
    split at h
    ·next n2 z2 f2 t2 ns2 hb2 =>
     split at h
     ·next q =>
      obtain ⟨hc,h⟩:=QA h;cases h;simp only [Qxp,Qxt,Bool.not_eq_true'] at hc;obtain ⟨⟨⟨⟨⟨⟨c1,c2⟩,c3⟩,c4⟩,c5⟩,c6⟩,c7⟩:=hc;have e1:=Qc c1;have e2:=Qc c2;have e3:=Qc c3;have e4:=Qc c4;have e5:=Qc c5;subst e1 e2 e3 e4 e5;have hm:=hC (m=k) (by simp);have hk:=hC (k<=1000000) (by simp);have hno:=hC (∀ a,a < k -> ∀ b,b < z2->noL k (f a b)) (by simp);have hl0:=hC (∀ b,b < z2->Qf4 (f2 0 b)) (by simp);subst hm
      have hfr:st.free kp (nmB d)=true:=by
       rcases hf (nmB d,_) (List.mem_cons_self ..) with k | k
       ·rw [hnd] at k;cases k
       ·exact k
      refine (Qj5 (cells:=avC m z2 f) (cells2:=avC 1 z2 f2) (news:=avC 1 z2 fun a b=>toL m (f2 a b)) (ns':=ns.set m q) (nmB d) hd hx (S.ob hb (by simp)) (Z9 _ _ _).symm hy (S.ob hb2 (by simp)) (Z9 _ _ _) (by omega) hT hsz (by
        have:(m+1) * by_<=1000001 * 10000:=QxB (by omega) hby
        omega) (by omega) (by rw [Wz];exact hfr) c7 (fun w Pub φ vs k=>Qdv (fun i hi j hj u k=>QpM (hno i hi j hj) k) k) (fun w Pub φ vs k=>Qdv (fun i hi j hj u k=>by
        obtain rfl:i=0:=by omega
        exact Qv7 (hl0 j hj) c6 k) k)).cast ?_
      rw [<- Qtz];rfl
     ·cases h
    ·cases h
   ·cases h
  ·cases h
 ·cases h
theorem Qkk {T:TypeId} {x y:Operand} {u v:EV} {R:RS} (hP:tab.ok P) (S:Sub vs bs st) (h:Qf7 tab bs d T u v=some R) (hC:∀ c∈R.C,c) (hf:∀ p∈R.hp,(ob_ bs p.1).alive=true\/st.free kp p.1=true) (hnd:(ob_ bs (nmB d)).alive=false) (hnz:(ob_ bs (nmZ d)).alive=false)
  (hd:Qxr d n=true) (hx:Gv (st.as.ev x) u.av) (hy:Gv (st.as.ev y) v.av) :
  Qd P E kp n ops ⟨some d,.call { callee:=.builtin .append,args:=#[x,y],argTypes:=#[T,T] },ty,ps,af,none⟩ st.as (R.app st).as:=by
 unfold Qf7 at h;split at h
 ·next e sz by_ z _ _ _ _ hti =>
  obtain ⟨_,_,hT,hsz,hz⟩:=(TT.find_ok hP hti).sl e sz by_ z rfl
  cases hc:QxI by_ 10000 && QxI 1 sz with
  | false=>rw [hc] at h;cases h
  | true =>
   rw [hc] at h;simp only [cond_true] at h;simp only [Qxp,Nat.ble_eq] at hc;split at h
   ·next C src hsrc =>
    cases hs:src.szOk sz with
    | false=>rw [hs] at h;cases h
    | true =>
     rw [hs] at h;simp only [cond_true] at h;split at h
     ·next r m =>
      cases hk:(ob_ bs r).okSz sz e with
      | false=>rw [hk] at h;cases h
      | true =>
       rw [hk] at h;simp only [cond_true] at h;split at h
       ·next eb hj =>
        cases h;have hC1:∀ c∈C,c:=fun c hc=>hC c (Qxs _ hc);have hC2:∀ c∈src.okC sz,c:=fun c hc=>hC c (Qxq _ (Qxs _ hc));have hC3:∀ c∈(ob_ bs r).lenC sz m,c:=fun c hc=>hC c (Qxq _ (Qxq _ (Qxs _ hc)));have hC4:m+src.len<=1000000000:=hC _ (Qxq _ (Qxq _ (Qxq _ (Qxo.2 rfl))));obtain ⟨j1,j2⟩:=QpR hj hk hs hC2
        have hl:st.as.ob r=.row (ob_ bs r).pvs e sz (ob_ bs r).pub:=by
         rw [S.ob rfl (by intro e2;rw [e2] at hk;cases hk),j2]
        have hn:m * sz=(ob_ bs r).pvs.length:=by
         cases hq:ob_ bs r with
         | rb l t p =>
          rw [hq] at hC3 hk;simp only [EB.okSz,Qxp] at hk;have e1:=Qc hk.1;subst e1;have:=hC3 (m=l.length) (by simp [EB.lenC]);simp [EB.pvs,this]
         | rz m' z' f t p =>
          rw [hq] at hC3 hk;simp only [EB.okSz,Qxp] at hk;have e1:=Qc hk.1;subst e1;have:=hC3 (m=m') (by simp [EB.lenC]);rw [this];exact (Wp m' z' f).symm
         | row l t z' p =>
          rw [hq] at hC3 hk;have:=hC3 (m * sz=l.length) (by simp [EB.lenC]);simp [EB.pvs,this,Qk]
         | box _ _=>rw [hq] at hk;cases hk
         | mp _=>rw [hq] at hk;cases hk
         | it _ _ _ _=>rw [hq] at hk;cases hk
         | dead=>rw [hq] at hk;cases hk
         | bz _ _ _=>rw [hq] at hk;cases hk
         | ra _ _ _ _ _=>rw [hq] at hk;cases hk
        have hfr:st.free kp (nmB d)=true:=by
         rcases hf (nmB d,eb) (by simp) with k | k
         ·rw [hnd] at k;cases k
         ·exact k
        refine (Qpm (nmB d) hx hl hn (QlV S hsrc hC1 hs hC2 hsz hy) hT hsz (by
         have:(m+src.len) * by_<=1000000000 * 10000:=QxB hC4 hc.1
         omega) (by omega) (by rw [Wz];exact hfr) hd).cast ?_
        rw [<- j1];rfl
       ·cases h
     ·cases h;have hC1:∀ c∈C,c:=fun c hc=>hC c (Qxs _ hc);have hC2:∀ c∈src.okC sz,c:=fun c hc=>hC c (Qxq _ (Qxs _ hc));have hC4:src.len<=1000000000:=hC _ (Qxq _ (Qxq _ (Qxo.2 rfl)))
      have hfr:st.free kp (nmB d)=true:=by
       rcases hf (nmB d,Qs8 e sz src) (by simp) with k | k
       ·rw [hnd] at k;cases k
       ·exact k
      have hfz:st.free kp (nmZ d)=true:=by
       rcases hf (nmZ d,.dead) (by simp) with k | k
       ·rw [hnz] at k;cases k
       ·exact k
      refine (QhI (nmB d) (nmZ d) hx (QlV S hsrc hC1 hs hC2 hsz hy) hT hsz (by
         have:src.len * by_<=1000000000 * 10000:=QxB hC4 hc.1
         omega) (by omega) (by rw [Wz];exact hfr) (by rw [Wz];exact hfz) (by unfold nmZ nmB;omega) hd).wk ?_
      intro a w hsat;refine Sat.congr (st:=AS.mk ((d,.osl (nmB d) src.len)::st.as.slots) ((nmB d,.row src.pvs e sz 0)::st.as.heap)) (fun s=>rfl) (fun r=>?_) hsat;show look OB.dead ((nmB d,(Qs8 e sz src).ob)::(nmZ d,.dead)::obs st.heap) r=look OB.dead ((nmB d,.row src.pvs e sz 0)::obs st.heap) r;rw [Qty hs];by_cases e1:nmB d=r
      ·rw [Qb,if_pos e1,Qb,if_pos e1]
      ·rw [Qb,if_neg e1,Qb];rw [Qb,if_neg e1];split
       ·next e2 =>
        subst e2;have:=(Qu (st:=st.as) (kp:=kp) (r:=nmZ d) (by rw [Wz];exact hfz)).1;have h2:look OB.dead (obs st.heap) (nmZ d)=look OB.dead st.as.heap (nmZ d):=rfl;rw [h2];cases hz:look OB.dead st.as.heap (nmZ d) <;> rw [hz] at this <;> first | rfl | cases this
       ·rfl
     ·cases h
   ·exact Qv8 S h hC hf hnd hd hT hsz hc.1 hx hy
 ·cases h
end
end
section
open Go.RowKit
section
variable {P:Program} {E:Env} {kp:List Nat} {n:Nat} {ops:Array Oper} {d:Nat} {ty:TypeId} {ps:String} {af:Array Edge}
variable {tab:TT} {vs:List (Nat×EV)} {bs:List (Nat×EB)} {st:ES}
theorem YX {x:EV} {i:Int} (h:ZV x=some i):Gv x.av (.p (Qch i)):=by rw [ZW h];exact Gv.r
theorem QpS {T:TypeId} {ti:TI} (h:TIok P T ti):∃ dd,P.underlying T=some dd:=by
 have:=h.agg;unfold Q4 at this
 cases hq:P.underlying T with
 | none=>rw [hq] at this;cases this
 | some dd=>exact ⟨dd,rfl⟩
theorem QhJ {T T':TypeId} {x:Operand} {R:RS} (hP:tab.ok P) (S:Sub vs bs st) (h:Qdm tab vs bs d T T' x=some R) (hC:∀ c∈R.C,c) (hf:∀ p∈R.hp,(ob_ bs p.1).alive=true\/st.free kp p.1=true) (hnd:(ob_ bs (nmB d)).alive=false) (hd:Qxr d n=true) :
  Qd P E kp n ops ⟨some d,.convert T T' x,ty,ps,af,none⟩ st.as (R.app st).as:=by
 unfold Qdm at h;split at h
 ·next k _ _ _ _ k' _ _ _ _ hti hti' =>
  have hT:=TT.find_ok hP hti;have hT':=TT.find_ok hP hti';split at h
  ·next k2 =>
   split at h
   ·next y hy =>
    cases h;obtain ⟨dd,hdd⟩:=QpS hT;exact QpF hy hdd (hT'.int _ rfl) hd (S.v x)
   ·cases h
  ·split at h
   ·split at h
    ·next l hl =>
     cases h;have e:=Zs hl;exact Qnm (by have:=S.v x;rw [e] at this;exact this) (hT.str rfl) (hT'.str rfl) hd
    ·cases h
   ·next e sz by_ z =>
    cases hu:Qbu tab e sz by_ z with
    | false=>rw [hu] at h;cases h
    | true =>
     rw [hu] at h;simp only [cond_true] at h;obtain ⟨u1,u2,u3,u4⟩:=Qax hP hu;obtain ⟨s1,_⟩:=hT.sl e sz by_ z rfl;split at h
     ·next l R' hR =>
      cases h;obtain ⟨k1,k2,k3⟩:=Qdy (E:=E) (kp:=kp) (n:=n) S hR hC;exact (QcY (st:=(R'.app st).as) k2 s1 u1 (hT'.str rfl) hd).pre k1
     ·next R' hR =>
      cases h;obtain ⟨k1,k2,k3⟩:=Qdy (E:=E) (kp:=kp) (n:=n) S hR hC
      have g:Gv ((R'.app st).as.ev x) (.p (WS [])):=k2.trans (by
       show Gv (.p (.v (.slice none 0 0))) (.p (.sl [] 0))
       exact Gv.nilSl)
      exact (QcY (st:=(R'.app st).as) g s1 u1 (hT'.str rfl) hd).pre k1
     ·cases h
   ·cases h
  ·next e sz by_ z =>
   split at h
   ·cases hu0:Qbu tab e sz by_ z && Qxw e 5 with
    | false=>rw [hu0] at h;cases h
    | true =>
     rw [hu0] at h;simp only [cond_true] at h;rw [Qxp] at hu0;obtain ⟨hu,hu1⟩:=hu0;obtain ⟨u1,u2,u3,u4⟩:=Qax hP hu;obtain ⟨s1,_⟩:=hT'.sl e sz by_ z rfl;split at h
     ·next l hl =>
      cases h;have e1:=Zs hl
      have hfr:st.free kp (nmB d)=true:=by
       rcases hf (nmB d,.rb l e 0) (by simp) with k | k
       ·rw [hnd] at k;cases k
       ·exact k
      have hlen:l.length<=1000000000:=hC _ (Qxo.2 rfl);exact QjX (nmB d) (by have:=S.v x;rw [e1] at this;exact this) (hT.str rfl) s1 u1 (by omega) (Qc hu1) (by rw [Wz];exact hfr) hd
     ·cases h
   ·obtain ⟨hc,h2⟩:=QA h;clear h;simp only [Qxp] at hc;have eT:=Qc hc.1;subst eT;obtain ⟨u1,u2,u3,u4⟩:=Qax hP hc.2;obtain ⟨s1,_⟩:=hT'.sl e sz by_ z rfl;split at h2
    ·next r m hx =>
     split at h2
     ·next l t pub hb =>
      obtain ⟨ht,h2⟩:=QA h2;cases h2;exact Qns (by have:=S.v x;rw [hx] at this;exact this) (S.ob hb (by simp)) s1 u1 (hC _ (Qxo.2 rfl)) (Qc ht) hd
     ·cases h2
    ·cases h2
   ·cases h
  ·cases h
 ·cases h
theorem QhK (o:Option Operand):optE vs o=o.map (Ql vs):=by cases o <;> rfl
theorem QnE {T:TypeId} {x:Operand} {lo hi:Option Operand} {R:RS} (hP:tab.ok P) (S:Sub vs bs st) (h:Qkd tab vs bs d T x lo hi=some R) (hC:∀ c∈R.C,c) (hd:Qxr d n=true) :
  Qd P E kp n ops ⟨some d,.slice T x lo hi none,ty,ps,af,none⟩ st.as (R.app st).as:=by
 unfold Qkd at h;split at h
 ·next y R' hR =>
  split at h
  ·next C z hz =>
   cases h;have hC1:∀ c∈R'.C,c:=fun c hc=>hC c (Qxs _ hc);have hC2:∀ c∈C,c:=fun c hc=>hC c (Qxq _ hc);obtain ⟨k1,k2,k3⟩:=Qdy (E:=E) (kp:=kp) (n:=n) S hR hC1;rw [QhK,QhK] at hz;refine (Qtt (st:=(R'.app st).as) hP hz hC2 hd k2 (fun q _ hi=>?_)).pre k1;rw [k3 q (fun r m e=>by rw [e] at hi;cases hi)];exact S.v q
  ·cases h
 ·cases h
theorem QlW {T:TypeId} {x:Operand} {u:EV} {i:Int} {st:AS} {ti:TI} (hT:TIok P T ti) (h:QpA u=some i) (hk:(∃ e sz b z,ti.k=.sl e sz b z)\/ti.k=.str) (hok:(∃ e sz b z,ti.k=.sl e sz b z)->asS u=none) (hok2:ti.k=.str->(asS u).isSome=true) (hd:Qxr d n=true) (hx:Gv (st.ev x) u.av) :
  Qd P E kp n ops ⟨some d,.call { callee:=.builtin .len,args:=#[x],argTypes:=#[T] },ty,ps,af,none⟩ st (st.put d (EV.i i).av):=by
 rcases hk with ⟨e,sz,b,z,hk⟩ | hk
 ·obtain ⟨_,hs,_⟩:=hT.sl e sz b z hk;have hn:=hok ⟨e,sz,b,z,hk⟩;unfold QpA at h;split at h
  ·next l=>cases h;exact QfT (m:=l.length) hd hx hs
  ·next m s f=>cases h;exact QfT (m:=m) (cells:=lzC m s f) hd (by have h3:=hx;unfold EV.av EV.pv at h3;exact h3) hs
  ·next m=>cases h;exact QfT hd hx hs
  ·next r m=>cases h;exact Qpe hd hx hs
  ·next a m c=>cases h;exact Qpd hd hx hs
  ·simp [asS] at hn
  ·cases h
 ·have hs:=hT.str hk;have hn:=hok2 hk
  cases ha:asS u with
  | none=>rw [ha] at hn;cases hn
  | some l =>
   have e:=Zs ha;subst e;unfold QpA at h;cases h;exact Qpf hd hx hs
theorem QtA {α:Type} {a:Array α} {x:α} (h:a.toList=[x]):a = #[x]:=by cases a;simp at h;rw [h]
theorem QhL {α:Type} {a:Array α} {x y:α} (h:a.toList=[x,y]):a = #[x,y]:=by cases a;simp at h;rw [h]
theorem QhM {b:Builtin} {args:Array Operand} {argTypes:Array TypeId} {R:RS} (hP:tab.ok P) (S:Sub vs bs st) (h:Qdn tab vs bs d b args.toList ty argTypes.toList=some R) (hC:∀ c∈R.C,c)
  (hf:∀ p∈R.hp,(ob_ bs p.1).alive=true\/st.free kp p.1=true) (hnd:(ob_ bs (nmB d)).alive=false) (hnz:(ob_ bs (nmZ d)).alive=false) (hd:Qxr d n=true) :
  Qd P E kp n ops ⟨some d,.call { callee:=.builtin b,args:=args,argTypes:=argTypes },ty,ps,af,none⟩ st.as (R.app st).as:=by
 unfold Qdn at h;split at h
 ·next x T h1 h2 =>
  have e1:=QtA h1;have e2:=QtA h2;subst e1 e2;split at h
  ·next e sz by_ z _ _ _ _ hti =>
   cases hs:asS (Ql vs x) with
   | some l=>rw [hs] at h;cases h
   | none =>
    rw [hs] at h;simp only at h
    cases hl:QpA (Ql vs x) with
    | none=>rw [hl] at h;cases h
    | some i=>rw [hl] at h;cases h;exact QlW (TT.find_ok hP hti) hl (.inl ⟨_,_,_,_,rfl⟩) (fun _=>hs) (fun k=>by cases k) hd (S.v x)
  ·next hti =>
   cases hs:asS (Ql vs x) with
   | none=>rw [hs] at h;cases h
   | some l =>
    rw [hs] at h;cases h;refine QlW (u:=.s l) (TT.find_ok hP hti) rfl (.inr rfl) (fun ⟨_,_,_,_,k⟩=>by cases k) (fun _=>rfl) hd (by have:=S.v x;rw [Zs hs] at this;exact this)
  ·next K V _ _ _ _ hti =>
   split at h
   ·next r hx =>
    split at h
    ·next es hb =>
     cases h;have gx:=S.v x;rw [hx] at gx;exact Qpr ((TT.find_ok hP hti).mp K V rfl).u gx (S.ob hb (by simp)) hd
    ·cases h
   ·cases h
  ·cases h
 ·next x y T T' h1 h2 =>
  have e1:=QhL h1;have e2:=QhL h2;subst e1 e2;split at h
  ·next e s z zz _ _ _ _ hti =>
   cases hs:Qxw s 1 with
   | false=>rw [hs] at h;cases h
   | true =>
    rw [hs] at h;simp only [cond_true] at h;have es:=Qc hs;subst es;split at h
    ·next r m hx =>
     split at h
     ·next l t pub ho =>
      cases ht:Qxw t e with
      | false=>rw [ht] at h;cases h
      | true =>
       rw [ht] at h;simp only [cond_true] at h;have et:=Qc ht;subst et;have gx:=S.v x;rw [hx] at gx;have gy:=S.v y;have hob:=S.ob ho (by simp);have hT:=((TT.find_ok hP hti).sl _ _ _ _ rfl).2.1;split at h
       ·next q hq =>
        cases h;have c1:m=l.length:=hC (m=l.length) (by simp);have c2:0 < m:=hC (0 < m) (by simp);have c3:pub=0:=hC (pub=0) (by simp)
        have em:Qs (l.map b8P) 0 ((q.take m).map b8P)=(q.take m++l.drop (q.take m).length).map b8P:=by
         rw [QeY _ _ (by simp;omega),List.map_append,List.map_drop,QxH]
        have eb:(EB.rb (q.take m++l.drop (q.take m).length) t pub).ob=.row (Qs (l.map b8P) 0 ((q.take m).map b8P)) t 1 pub:=by rw [em];rfl
        split at hq
        ·next m' hm' =>
         cases hq;have:=Zs hm';rw [this] at gy;refine (Qnr (T2:=T') gx hob gy hT (by rw [QxH];omega) c2 c3 hd).cast ?_;show AS.mk _ _=AS.mk ((d,EV.av (.i _))::st.as.slots) ((r,EB.ob _)::st.as.heap);rw [eb];rfl
        ·split at hq
         ·next m' hm' =>
          cases hq;rw [hm'] at gy;refine (Qpo (T2:=T') gx hob gy hT (by rw [QxH];omega) c2 c3 hd).cast ?_;show AS.mk _ _=AS.mk ((d,EV.av (.i _))::st.as.slots) ((r,EB.ob _)::st.as.heap);rw [eb];rfl
         ·cases hq
       ·cases h
     ·cases h
    ·cases h
  ·cases h
 ·next x y T T' h1 h2 =>
  have e1:=QhL h1;have e2:=QhL h2;subst e1 e2
  cases hc:Qxw T T' with
  | false=>rw [hc] at h;cases h
  | true =>
   rw [hc] at h;have e:=Qc hc;subst e;exact Qkk hP S h hC hf hnd hnz hd (S.v x) (S.v y)
 ·next x y T1 T2 h1 h2 =>
  have e1:=QhL h1;have e2:=QhL h2;subst e1 e2;split at h
  ·next hti =>
   split at h
   ·next i j hi hj=>cases h;exact S_min ((S.v x).trans (YX hi)) ((S.v y).trans (YX hj)) hd ((TT.find_ok hP hti).int _ rfl)
   ·cases h
  ·split at h
   ·next i j hi hj=>cases h;exact QvU (by have:=S.v x;rw [Zs hi] at this;exact this) (by have:=S.v y;rw [Zs hj] at this;exact this) hd
   ·cases h
  ·cases h
 ·next x y T1 T2 h1 h2 =>
  have e1:=QhL h1;have e2:=QhL h2;subst e1 e2;split at h
  ·next hti =>
   split at h
   ·next i j hi hj=>cases h;exact S_max ((S.v x).trans (YX hi)) ((S.v y).trans (YX hj)) hd ((TT.find_ok hP hti).int _ rfl)
   ·cases h
  ·next hti =>
   split at h
   ·next i j hi hj=>cases h;exact QvT ((S.v x).trans (Jh hi)) ((S.v y).trans (Jh hj)) hd ((TT.find_ok hP hti).int _ rfl)
   ·cases h
  ·split at h
   ·next i j hi hj=>cases h;exact QvV (by have:=S.v x;rw [Zs hi] at this;exact this) (by have:=S.v y;rw [Zs hj] at this;exact this) hd
   ·cases h
  ·cases h
 ·cases h
theorem QdA {T:TypeId} {len:Nat} {parts:List (Nat×Operand)} {R:RS} (h:Yp tab vs d T len parts=some R):∀ p∈R.hp,p.1=nmB d:=by
 unfold Yp at h;split at h
 ·next e sz by_ z _ _ _ _ hti =>
  split at h
  ·next l hl =>
   cases hc:Qxw parts.length len && QxI (len * sz) 1000000 with
   | false=>rw [hc] at h;cases h
   | true =>
    rw [hc] at h;simp only [cond_true] at h;split at h
    ·cases hu:Qbu tab e sz by_ z with
     | false=>rw [hu] at h;cases h;intro p hp;rw [Qxo.1 hp]
     | true=>rw [hu] at h;cases h;intro p hp;rw [Qxo.1 hp]
    ·cases h;intro p hp;rw [Qxo.1 hp]
  ·split at h
   ·split at h
    ·obtain ⟨_,h⟩:=QA h;cases h;intro p hp;rw [Qxo.1 hp]
    ·cases h
   ·cases h
 ·cases h
theorem QpT {T:TypeId} {x y:EV} {R:RS} (h:QhD tab d T x y=some R):∀ p∈R.hp,p.1=nmB d:=by
 unfold QhD at h;split at h
 ·split at h
  ·next e sz by_ z _ _ _ _ hti =>
   cases hu:Qbu tab e sz by_ z with
   | true=>rw [hu] at h;cases h;intro p hp;rw [Qxo.1 hp]
   | false =>
    rw [hu] at h;simp only [cond_false] at h
    cases hb:QxI by_ 10000 with
    | false=>rw [hb] at h;cases h
    | true=>rw [hb] at h;cases h;intro p hp;rw [Qxo.1 hp]
  ·cases h
 ·cases h
theorem Vj {wr:Bool} {o:Op} {R:RS} (hP:tab.ok P) (S:Sub vs bs st) (h:opF tab vs bs d wr ty o=some R) (hC:∀ c∈R.C,c)
  (hf:∀ p∈R.hp,(ob_ bs p.1).alive=true\/st.free kp p.1=true) (hnd:(ob_ bs (nmB d)).alive=false) (hnz:(ob_ bs (nmZ d)).alive=false) (hd:Qxr d n=true) :
  Qd P E kp n ops ⟨some d,o,ty,ps,af,none⟩ st.as (R.app st).as:=by
 have fr:∀ eb:EB,(nmB d,eb)∈R.hp->st.free kp (nmB d)=true:=fun eb hm=>by
  rcases hf _ hm with k | k
  ·rw [hnd] at k;cases k
  ·exact k
 have one:∀ {C:List Prop} {z:EV},Qd P E kp n ops ⟨some d,o,ty,ps,af,none⟩ st.as (st.as.put d z.av)->R=⟨C,[(d,z)],[]⟩->Qd P E kp n ops ⟨some d,o,ty,ps,af,none⟩ st.as (R.app st).as:=fun k e=>by subst e;exact k
 have oneO':∀ {q:Option (List Prop×EV)},Qj9 d q=some R->∃ C z,q=some (C,z)/\R=⟨C,[(d,z)],[]⟩:=fun {q} k=>by
  unfold Qj9 at k;split at k
  ·next C z=>cases k;exact ⟨C,z,rfl,rfl⟩
  ·cases k
 unfold opF at h;split at h
 ·rw [EV.fc_eq] at h;cases h;exact Qnh (.inl rfl) hd (S.v _)
 ·rw [EV.fc_eq] at h;cases h;exact Qnh (.inr rfl) hd (S.v _)
 ·next x =>
  split at h
  ·next g hg=>cases h;exact S_not (by have:=S.v x;rw [Qbv hg] at this;exact this) hd
  ·cases h
 ·next x =>
  split at h
  ·next i hi =>
   obtain ⟨C,z,k1,k2⟩:=oneO' h;have hx:Gv (st.as.ev x) (.p (Qch i)):=(S.v x).trans (YX hi);refine one ?_ k2;subst k2;unfold arF at k1
   cases wr with
   | true=>cases k1;exact Qvt hx rfl hd
   | false =>
    cases k1;have:=hC (-9223372036854775808 <= -i /\ -i<=9223372036854775807) (by simp);exact Qvt hx (w64 this.1 this.2) hd
  ·cases h
 ·next x =>
  split at h
  ·next y hy=>cases h;exact Qtg hy hd (S.v x)
  ·cases h
 ·next op T x y _ =>
  split at h
  ·next hti =>
   split at h
   ·next i j hi hj =>
    split at h
    ·next z hz =>
     cases h;exact QpD hz ((TT.find_ok hP hti).bool rfl) hd (by have:=S.v x;rw [Qbv hi] at this;exact this) (by have:=S.v y;rw [Qbv hj] at this;exact this)
    ·cases h
   ·cases h
  ·next hti =>
   obtain ⟨hn,h⟩:=QA h;have gy:=S.v y;rw [Qny hn] at gy;obtain ⟨e,hu⟩:=(TT.find_ok hP hti).ptr rfl;split at h
   ·next b hb =>
    have hp:=Qs9 hb (S.v x);split at h
    ·cases h;exact Qs0 hp gy hu hd
    ·cases h;exact Qs1 hp gy hu hd
    ·cases h
   ·cases h
  ·next hti =>
   have hT:=TT.find_ok hP hti;split at h
   ·next xs ys hx hy =>
    have gx:=S.v x;rw [hx] at gx;have gy:=S.v y;rw [hy] at gy;split at h
    ·next b hb =>
     obtain ⟨us,vs',k1,k2,k3,k4,k5⟩:=QpC hb;obtain ⟨f1,f2⟩:=hT.ks _ rfl;subst k5;split at h
     ·cases h;exact QsW gx gy k1 k2 (by decide) f1 hT.agg f2 k3 k4 hd
     ·cases h;exact QsX gx gy k1 k2 (by decide) f1 hT.agg f2 k3 k4 hd
     ·cases h
    ·cases h
   ·cases h
  ·obtain ⟨C,z,k1,k2⟩:=oneO' h;refine one ?_ k2;subst k2;exact Qtf k1 hC hd (S.v x) (S.v y)
 ·exact QhJ hP S h hC hf hnd hd
 ·refine QnC hP h (fun p hp=>?_) hd;have h':=h;unfold Qf5 at h';split at h'
  ·cases h';rw [Qxo.1 hp];exact fr _ (Qxo.2 rfl)
  ·cases h'
 ·refine Qtw S h hC (fun p hp=>?_) hd;have h':=h;unfold Qs7 at h';split at h'
  ·cases h';rw [Qxo.1 hp];exact fr _ (Qxo.2 rfl)
  ·cases hq:QL (csE (Ql vs _)) with
   | false=>rw [hq] at h';cases h'
   | true=>rw [hq] at h';cases h';rw [Qxo.1 hp];exact fr _ (Qxo.2 rfl)
 ·exact QnD hP S h hd
 ·refine Qdz hP S h (fun p hp=>?_) hd;have e:=QdA h p hp;rw [e];obtain ⟨q,eb⟩:=p;simp only at e;subst e;exact fr eb hp
 ·refine QpQ hP h hC (fun p hp=>?_) hd (S.v _) (S.v _);have e:=QpT h p hp;rw [e];obtain ⟨q,eb⟩:=p;simp only at e;subst e;exact fr eb hp
 ·obtain ⟨C,z,k1,k2⟩:=oneO' h;refine one ?_ k2;subst k2;exact QpK hP S k1 hC hd (S.v _)
 ·next x =>
  have hx:=S.v x;split at h
  ·next r o hv=>cases h;rw [hv] at hx;exact Qhg hx hd
  ·next c o hv=>cases h;rw [hv] at hx;exact QlF hx hd
  ·next r s i o hv=>cases h;rw [hv] at hx;exact Qhg hx hd
  ·next m s f i o hv=>cases h;rw [hv] at hx;exact QlF hx hd
  ·cases h
 ·split at h
  ·next y hy=>cases h;exact Qts hP hy hd (S.v _)
  ·cases h
 ·obtain ⟨C,z,k1,k2⟩:=oneO' h;refine one ?_ k2;subst k2;exact QlS hP k1 hC hd (S.v _) (S.v _)
 ·obtain ⟨C,z,k1,k2⟩:=oneO' h;refine one ?_ k2;subst k2;exact Qv6 hP k1 hC hd (S.v _) (S.v _)
 ·exact QnE hP S h hC hd
 ·next x i =>
  have hx:=S.v x;split at h
  ·next l hv =>
   split at h
   ·next y hy =>
    cases h;rw [hv] at hx;rw [Xh] at hy;exact Qnj hd hx (by rw [Qau,hy];rfl)
   ·cases h
  ·cases h
 ·next T x f =>
  have hx:=S.v x;split at h
  ·next pl _ _ _ _ hti =>
   have hT:=TT.find_ok hP hti;split at h
   ·next o s hpl =>
    split at h
    ·next l hv =>
     split at h
     ·next y hy =>
      cases h;rw [hv] at hx;rw [Xh] at hy;refine Qpb (fs:=#[]) (pl:=pl.map fun p=>(p.1,p.2.1)) (s:=s) hd hx (hT.st pl rfl) (by rw [Qxu,hpl];rfl) (fun fs fd hu hfd=>?_) (by rw [Qau,hy];rfl);have k:=hT.fl pl rfl;unfold stNA at k;rw [hu] at k;exact Qe1 k hpl (by simpa using hfd)
     ·cases h
    ·cases h
   ·cases h
  ·cases h
 ·next c =>
  split at h
  ·next b hb =>
   obtain ⟨callee,args,argTypes⟩:=c;simp only at hb;subst hb;exact QhM hP S h hC hf hnd hnz hd
  ·cases h
 ·cases h
end
end
end Go.Proofs.YtcebndkiagbddaaGreatDoor
