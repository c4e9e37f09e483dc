/- A part of the proof: contracts of functions and what they stand on. Written shorter and merged by a program (pack.py). -/
import Derived.Test.YtcebndkiagbddaaGreatDoorK9
set_option linter.unusedVariables false
set_option linter.unusedSimpArgs false
set_option maxRecDepth 100000
set_option maxHeartbeats 4000000
open List renaming mem_singleton → Qy3, mem_append_right → Qy5, mem_append_left → Qy7, getElem?_map → Qy9, getElem?_eq_none → Qza, getElem?_eq_getElem → Qzc, singleton_append → Qzd, eq_nil_of_length_eq_zero → Qze, range_one → Qzf, getD_eq_getElem?_getD → Qzh, flatMap_cons → Qzi, flatMap_nil → Qzj, append_nil → Qzl, length_map → Qzm, getElem?_range → Qzo
open Bool renaming and_eq_true → Qy4
open Nat renaming blt → Qy6, blt_eq → Qy8, beq → Qzb, mul_le_mul → Qzg, ble → Qzn
open Int renaming eq_ofNat_of_zero_le → Qzk
namespace Go.Proofs.YtcebndkiagbddaaGreatDoor
section
open Go.RowKit
section
variable {P:Program} {E:Env} {kp:List Nat} {n:Nat} {ops:Array Oper} {d:Nat} {ty:TypeId} {ps:String} {af:Array Edge}
variable {tab:TT} {vs:List (Nat×EV)} {bs:List (Nat×EB)} {st:ES}
theorem QmW:∀ {l l':List EV} {k:Nat} {ns:List Nat},rnL k l=some (l',ns)→l'.length=l.length ∧ ∀ (pre:List Nat),pre.length=k → ∀ (w:World) (Pub:Nat→Nat→Prop) (φ:Qt) (us:List Value),RAs w Pub φ (avL l) us→RAs w Pub (loc φ (pre++ns)) (avL l') us
 | [],l',k,ns,h=>by
  simp only [rnL] at h;cases h;exact ⟨rfl,fun pre _ w Pub φ us k=>by unfold avL RAs at k ⊢;exact k⟩
 | x::xs,l',k,ns,h=>by
  unfold rnL at h;split at h
  ·next q m =>
   split at h
   ·next l2 ns2 h2 =>
    cases h;obtain ⟨a1,a2⟩:=QmW h2;refine ⟨by simp [a1],fun pre hp w Pub φ us k=>?_⟩;unfold avL RAs at k ⊢;obtain ⟨u,vs,e,k1,k2⟩:=k;have e1:loc φ (pre++q::ns2) pre.length=φ q:=Qba (by simp);refine ⟨u,vs,e,?_,?_⟩
    ·unfold EV.av RA at k1 ⊢;rw [← hp,e1];exact k1
    ·have:=a2 (pre++[q]) (by simp [hp]) w Pub φ vs k2;rw [List.append_assoc] at this;exact this
   ·cases h
  ·obtain ⟨hs,h⟩:=QQ h;split at h
   ·next l2 ns2 h2 =>
    cases h;obtain ⟨a1,a2⟩:=QmW h2;refine ⟨by simp [a1],fun pre hp w Pub φ us k=>?_⟩;unfold avL RAs at k ⊢;obtain ⟨u,vs,e,k1,k2⟩:=k;exact ⟨u,vs,e,(Je _ u hs).2 ((Je _ u hs).1 k1),a2 pre hp w Pub φ vs k2⟩
   ·cases h
theorem QvJ {l:List EV} {sz:Nat} (h:l.length=sz):avC 1 sz (fun _ j=>l.getD j .any)=avL l:=by
 unfold avC;simp only [Qzf,Qzi,Qzj,Qzl];apply List.ext_getElem?;intro q;rw [ZO,Qy9,Qy9];by_cases hq:q < sz
 ·rw [Qzo hq,Qzc (by omega)];simp [Qzh,Qzc (show q < l.length by omega)]
 ·rw [Qza (by simpa using hq),Qza (by omega)];rfl
theorem QfT {T:TypeId} {len:Nat} {parts:Array (Nat×Operand)} {R:RS} (hP:tab.ok P) (S:Sub vs bs st) (h:Xx tab vs d T len parts.toList=some R) (hf:∀ p∈R.hp,st.free kp p.1=true) (hd:Qy6 d n=true) :
  Qf P E kp n ops ⟨some d,.buildSlice T len parts,ty,ps,af,none⟩ st.as (R.app st).as:=by
 unfold Xx at h;split at h
 ·next e sz by_ z _ _ _ _ hti =>
  obtain ⟨_,_,hT,hsz,hz⟩:=(TT.find_ok hP hti).sl e sz by_ z rfl;split at h
  ·next l hl =>
   cases hc:Qzb parts.toList.length len && Qzn (len * sz) 1000000 with
   | false=>rw [hc] at h;cases h
   | true =>
    rw [hc] at h;simp only [cond_true] at h;simp only [Qy4] at hc;have hlen:=Qe hc.1;obtain ⟨i,v,t1,t2,t3,t4,t5,t6,t7⟩:=Ja hT;have hzl:z.length=sz:=by rw [← t7];simpa using t6
    have hp:parts=parts.toList.toArray:=by simp
    have pl:(Vd vs parts.toList).length=len:=by
     rw [← hlen];generalize parts.toList=q
     induction q with
     | nil=>rfl
     | cons a q ih=>obtain ⟨i,x⟩:=a;simp [Vd,ih]
    obtain ⟨k1,k2,k3,k4,k5⟩:=Qol len hsz 0 (Qej (WV z len)) hl (by omega) (by simp [Qej,ZU,hzl]);rw [Nat.zero_mul,List.take_zero,List.nil_append] at k1;rw [pl] at k5
    have fin:∀ (eb:EB),eb.ob=.row (pvL l) e sz 0→st.free kp (nmB d)=true→Qf P E kp n ops ⟨some d,.buildSlice T len parts,ty,ps,af,none⟩ st.as (RS.app ⟨[],[(d,.osl (nmB d) len)],[(nmB d,eb)]⟩ st).as:=fun eb heb hfr=>by
     rcases Nat.eq_zero_or_pos len with h0 | h0
     ·subst h0
      have hpn:parts = #[]:=by
       have:parts.toList=[]:=Qze hlen;rw [hp,this]
      have hln:l=[]:=Qze (by omega);rw [hpn];refine (QgX (nmB d) hT (by rw [Zc];exact hfr) hd).cast ?_;rw [hln] at heb;simp only [RS.app,ES.as,Qzd,avs,obs,heb,pvL,EV.av]
     ·rw [hp];refine (Qiv (nmB d) h0 hT hsz hz hc.2 (out:=avL l) (qs:=pvL l) (by rw [QcA S k2];exact k1) (Yr _ k3) (Qaz _ k3 k4) (by rw [Qu];exact k5) (by rw [Zc];exact hfr) hd).cast ?_;simp only [RS.app,ES.as,Qzd,avs,obs,heb,EV.av]
    split at h
    ·next q hq =>
     obtain ⟨q1,q2⟩:=VE hq
     cases hu:Qdy tab e sz by_ z with
     | false=>rw [hu] at h;cases h;exact fin _ rfl (hf (nmB d,EB.row l e sz 0) (Qy3.2 rfl))
     | true =>
      rw [hu] at h;cases h;refine fin _ ?_ (hf (nmB d,EB.rb q e 0) (Qy3.2 rfl));have hsz1:sz=1:=(QcB hP hu).2.1;show OB.row (q.map b8P) e 1 0=_;rw [q1,hsz1]
    ·cases h;exact fin _ rfl (hf (nmB d,EB.row l e sz 0) (Qy3.2 rfl))
  ·split at h
   ·next x hps =>
    split at h
    ·next l ns hr =>
     obtain ⟨hc,h⟩:=QQ h;cases h;simp only [Qy4,Nat.ble_eq,Bool.not_eq_true'] at hc;obtain ⟨⟨⟨⟨c1,c2⟩,c3⟩,c4⟩,c5⟩:=hc;have e1:=Qe c1;have e2:=Qe c2;subst e1;obtain ⟨i,v,t1,t2,t3,t4,t5,t6,t7⟩:=Ja hT;have hzl:z.length=sz:=by rw [← t7];simpa using t6
     obtain ⟨a1,a2⟩:=QmW hr;have hne:Qw vs x≠.any:=fun e=>by rw [e] at c3;simp [csE,Q6,YF] at c3
     have hp:parts=parts.toList.toArray:=by simp
     have hfr:=hf (nmB d,EB.ra 1 sz (fun _ j=>l.getD j .any) e ns) (Qy3.2 rfl);rw [hp,hps];refine (QpZ (ns:=ns) (nmB d) (by omega) hT hsz hz (by simp only [Nat.one_mul,Nat.ble_eq];exact c4) (out:=avL (csE (Qw vs x))) (qs:=avC 1 sz fun _ j=>l.getD j .any) ?_ (Yr _ c3) (fun w Pub φ us k=>by rw [QvJ (by omega)];exact a2 [] rfl w Pub φ us k) (by rw [Xa]) (by rw [Xa,QJ];omega) (by rw [Zc];exact hfr) c5 hd).cast rfl;simp only [List.map_cons,List.map_nil,Qzf,Vu,List.getElem?_cons_zero];rw [S.eq hne,Qhu _ c3,if_pos ⟨by rw [QJ];exact e2,by simp [Qej,ZU,hzl],Yr _ c3⟩];rw [Nat.zero_mul,JI (by simp [Qej,ZU,hzl,QJ,e2])]
    ·cases h
   ·cases h
 ·cases h
theorem Qsv {T:TypeId} {x y:Operand} {u v:EV} {R:RS} (hP:tab.ok P) (h:Qkt tab d T u v=some R) (hC:∀ c∈R.C,c) (hf:∀ p∈R.hp,st.free kp p.1=true) (hd:Qy6 d n=true) (hx:Gv (st.as.ev x) u.av) (hy:Gv (st.as.ev y) v.av) :
  Qf P E kp n ops ⟨some d,.makeSlice T x y,ty,ps,af,none⟩ st.as (R.app st).as:=by
 unfold Qkt at h;split at h
 ·next i j h1 h2 =>
  have e1:=YR h1;have e2:=YR h2;subst e1 e2;split at h
  ·next e sz by_ z _ _ _ _ hti =>
   obtain ⟨_,_,hT,hsz,hz⟩:=(TT.find_ok hP hti).sl e sz by_ z rfl;obtain ⟨ii,vv,t1,t2,t3,t4,t5,t6,t7⟩:=Ja hT;have hzl:z.length=sz:=by rw [← t7];simpa using t6
   have go:by_≤10000→(0≤i∧i≤j∧j≤1000000000) → ∀ eb:EB,eb.ob=.row (ZE z i.toNat) e sz 0→st.free kp (nmB d)=true→Qf P E kp n ops ⟨some d,.makeSlice T x y,ty,ps,af,none⟩ st.as (RS.app ⟨[0≤i∧i≤j∧j≤1000000000],[(d,.osl (nmB d) i.toNat)],[(nmB d,eb)]⟩ st).as:=fun hby hb eb heb hfr=>by
    obtain ⟨a,rfl⟩:=Qzk hb.1;obtain ⟨b,rfl⟩:=Qzk (Int.le_trans hb.1 hb.2.1)
    have hm:by_ * b≤281474976710656:=by
     have:by_ * b≤10000 * 1000000000:=Qzg hby (by omega);omega
    refine (QxM (nmB d) hx hy hT hsz hz (by omega) hm (by omega) (by rw [Zc];exact hfr) hd).cast ?_;rw [Int.toNat_natCast] at heb;simp only [RS.app,ES.as,Qzd,avs,obs,heb,EV.av,Int.toNat_natCast]
   cases hu:Qdy tab e sz by_ z with
   | true =>
    rw [hu] at h;cases h;obtain ⟨_,hsz1,c2,c1⟩:=QcB hP hu;refine go c2 (hC _ (Qy3.2 rfl)) _ ?_ (hf (nmB d,EB.rb (List.replicate i.toNat 0) e 0) (Qy3.2 rfl));show OB.row ((List.replicate i.toNat 0).map b8P) e 1 0=_;rw [c1,Qfn,hsz1,List.map_replicate];rfl
   | false =>
    rw [hu] at h;simp only [cond_false] at h
    cases hb:Qzn by_ 10000 with
    | false=>rw [hb] at h;cases h
    | true =>
     rw [hb] at h;cases h;refine go (Nat.le_of_ble_eq_true hb) (hC _ (Qy3.2 rfl)) _ ?_ (hf (nmB d,EB.rz i.toNat sz (zF z) e 0) (Qy3.2 rfl));show OB.row (lzC i.toNat sz (zF z)) e sz 0=_
     have:∀ k,lzC k sz (zF z)=ZE z k:=by
      intro k
      induction k with
      | zero=>rfl
      | succ k ih =>
       have e0:=JJ 1 k sz (zF z);rw [Nat.add_comm 1 k] at e0;have e1:(fun a b=>zF z (1+a) b)=zF z:=rfl;rw [e0,e1,ih];show _=z.map .v++ZE z k;congr 1;unfold lzC;simp only [Qzf,Qzi,Qzj,Qzl];apply List.ext_getElem?;intro q;rw [Qy9,Qy9,← hzl];by_cases hq:q < z.length
       ·rw [Qzo hq,Qzc hq];simp [zF,EV.pv,Qzh,hq]
       ·rw [Qza (by simpa using hq),Qza (by omega)];rfl
     rw [this]
  ·cases h
 ·cases h
def SrcE.pvs:SrcE→List PV
 | .by_ l=>l.map b8P
 | .lz n sz f=>lzC n sz f
 | .cs l _=>pvL l
def EB.pvs:EB→List PV
 | .rb l _ _=>l.map b8P
 | .rz n sz f _ _=>lzC n sz f
 | .row l _ _ _=>pvL l
 | _=>[]
theorem Qom {y:Operand} {v:EV} {src:SrcE} {C:List Prop} {sz:Nat} (S:Sub vs bs st) (h:srcF bs sz v=some (C,src)) (hC:∀ c∈C,c) (hs:src.szOk sz=true) (hC2:∀ c∈src.okC sz,c) (hsz:0 < sz) (hy:Gv (st.as.ev y) v.av) :
  Qhj st.as sz (st.as.ev y) src.len src.pvs:=by
 unfold srcF at h;split at h
 ·next l =>
  cases h;have e:=Qe hs;subst e;exact Qhj.sl hy (by simp [SrcE.len,SrcE.pvs]) hsz
 ·next m z f =>
  cases h;have e:=Qe hs;subst e;exact Qhj.sl (cells:=lzC m z f) (by have h3:=hy;unfold EV.av EV.pv at h3;exact h3) (WX m z f) hsz
 ·next l m =>
  cases h;have e:=hC2 (l.length=m * sz) (by simp [SrcE.okC]);exact Qhj.sl hy ((Qu l).trans e) hsz
 ·cases h;exact Qhj.nil hy
 ·next r m =>
  split at h
  ·next l t pub hb =>
   cases h;have e:=Qe hs;subst e;have e2:m=l.length:=hC (m=l.length) (by simp);subst e2;exact Qhj.osl hy (S.ob hb (by simp)) (by simp [SrcE.len,SrcE.pvs]) hsz
  ·next m' z f t pub hb =>
   cases h;have e:=Qe hs;subst e;have e2:m=m':=hC (m=m') (by simp);subst e2;exact Qhj.osl hy (S.ob hb (by simp)) (WX m z f).symm hsz
  ·next l t z pub hb =>
   cases hz:Qzb z sz with
   | false=>rw [hz] at h;cases h
   | true =>
   rw [hz] at h;cases h;have e1:=Qe hz;subst e1;have e:=hC2 (l.length=m * z) (by simp [SrcE.okC]);exact Qhj.osl hy (S.ob hb (by simp)) ((Qu l).trans e).symm hsz
  ·cases h
 ·cases h
theorem Qsw {e:TypeId} {sz pub:Nat} {eb eb':EB} {src:SrcE} (h:Qsg e sz pub eb src=some eb') (hk:eb.okSz sz e=true) (hs:src.szOk sz=true) (hC2:∀ c∈src.okC sz,c):eb'.ob=.row (eb.pvs++src.pvs) e sz pub∧eb.ob=.row eb.pvs e sz eb.pub:=by
 unfold Qsg at h;split at h
 ·next l t p m =>
  cases h;simp only [EB.okSz,Qy4] at hk;have e1:=Qe hk.1;have e2:=Qe hk.2;subst e1 e2;exact ⟨by simp [EB.ob,EB.pvs,SrcE.pvs],rfl⟩
 ·next l t p c m =>
  split at h
  ·next q hq =>
   cases h;simp only [EB.okSz,Qy4] at hk;have e1:=Qe hk.1;have e2:=Qe hk.2;subst e1 e2;exact ⟨by simp [EB.ob,EB.pvs,SrcE.pvs,(VE hq).1],rfl⟩
  ·cases h
 ·next l t z p m k =>
  cases h;simp only [EB.okSz,Qy4] at hk;have e1:=Qe hk.1;have e2:=Qe hk.2;subst e1 e2;exact ⟨by simp [EB.ob,EB.pvs,SrcE.pvs,QbN],rfl⟩
 ·next n' z f t p m k =>
  cases hc:Qzb z sz with
  | false=>rw [hc] at h;cases h
  | true =>
   rw [hc] at h;cases h;simp only [EB.okSz,Qy4] at hk;have e1:=Qe hk.1;have e2:=Qe hk.2;subst e1 e2;have e3:=hC2 (m.length=k * z) (by simp [SrcE.okC]);refine ⟨?_,rfl⟩;show OB.row (lzC (n'+k) z _) t z pub=OB.row (lzC n' z f++pvL m) t z pub;rw [JJ,← QiR k z m e3];congr 2
   ·exact Xp fun i hi j hj=>by rw [show Qy6 i n'=true from (Qy8).mpr hi];rfl
   ·exact Xp fun i hi j hj=>by
     have:Qy6 (n'+i) n'=false:=by
      cases hb:Qy6 (n'+i) n' with
      | false=>rfl
      | true=>rw [Qy8] at hb;omega
     rw [this,show n'+i - n'=i from by omega];rfl
 ·next n' z f t p k z2 g =>
  cases hc:Qzb z sz && Qzb z2 sz with
  | false=>rw [hc] at h;cases h
  | true =>
   rw [hc] at h;cases h;simp only [Qy4] at hc;simp only [EB.okSz,Qy4] at hk;have e1:=Qe hk.1;have e2:=Qe hk.2;have e3:=Qe hc.2;subst e1 e2 e3;refine ⟨?_,rfl⟩;show OB.row (lzC (n'+k) z2 _) t z2 pub=OB.row (lzC n' z2 f++lzC k z2 g) t z2 pub;rw [JJ];congr 2
   ·exact Xp fun i hi j hj=>by rw [show Qy6 i n'=true from (Qy8).mpr hi];rfl
   ·exact Xp fun i hi j hj=>by
     have:Qy6 (n'+i) n'=false:=by
      cases hb:Qy6 (n'+i) n' with
      | false=>rfl
      | true=>rw [Qy8] at hb;omega
     rw [this,show n'+i - n'=i from by omega];rfl
 ·next l t z p k z2 g =>
  split at h
  ·next q hq =>
   cases hc:Qzb z2 sz && Qy6 0 sz with
   | false=>rw [hc] at h;cases h
   | true =>
    rw [hc] at h;cases h;simp only [Qy4] at hc;simp only [EB.okSz,Qy4] at hk;have e1:=Qe hk.1;have e2:=Qe hk.2;have e3:=Qe hc.1;subst e1 e2 e3;have hz:0 < z2:=by have:=hc.2;rwa [Qy8] at this
    have e4:l.length=q * z2:=by have:=QiI hz (by omega) hq;omega
    refine ⟨?_,rfl⟩;show OB.row (lzC (q+k) z2 _) t z2 pub=OB.row (pvL l++lzC k z2 g) t z2 pub;rw [JJ,← QiR q z2 l e4];congr 2
    ·exact Xp fun i hi j hj=>by rw [show Qy6 i q=true from (Qy8).mpr hi];rfl
    ·exact Xp fun i hi j hj=>by
      have:Qy6 (q+i) q=false:=by
       cases hb:Qy6 (q+i) q with
       | false=>rfl
       | true=>rw [Qy8] at hb;omega
      rw [this,show q+i - q=i from by omega];rfl
  ·cases h
 ·cases h
theorem QvK {e:TypeId} {sz:Nat} {src:SrcE} (hs:src.szOk sz=true):(Qvk e sz src).ob=.row src.pvs e sz 0:=by
 cases src with
 | by_ l=>have e1:=Qe hs;subst e1;rfl
 | lz m z f=>have e1:=Qe hs;subst e1;rfl
 | cs l m=>rfl
theorem Qky {st:AS} {T e:TypeId} {x y:Operand} {sz bytes m:Nat} {news:List PV} {z:List Value} (r' r0:Nat) (hx:Gv (st.ev x) (.p (.v (.slice none 0 0))))
  (hs:Qhj st sz (st.ev y) m news) (hT:Qdm P T=some (e,sz,bytes,z)) (hsz:0 < sz) (hb:m * bytes≤140737488355328) (hm:m≤140737488355328) (hf:st.free kp r'=true) (hf0:st.free kp r0=true) (hne:r0≠r') (hd:Qy6 d n=true) :
  Qf P E kp n ops ⟨some d,.call { callee:=.builtin .append,args:=#[x,y],argTypes:=#[T,T] },ty,ps,af,none⟩ st ⟨(d,.osl r' m)::st.slots,(r',.row news e sz 0)::st.heap⟩:=by
 refine Qf.val rfl fun a w ⟨φ,Pub,I,h0,hnn,hsl⟩=>?_;obtain ⟨f1,f2,f3,f4⟩:=QE hf;obtain ⟨g1,g2,g3,g4⟩:=QE hf0;obtain ⟨i,v,t1,t2,t3,t4,t5,t6,t7⟩:=Ja hT;obtain ⟨ad,c,vs,e1,c1,c2⟩:=hs E kp φ Pub w _ I (ZW (h:=st.heap) hsl y);have I0:=I.nilRow g1 g2 g4 e sz 0
 have hu:RA w Pub (fun q=>if q=r0 then none else φ q) (.osl r0 0) (a.eval x):=by
  unfold RA;exact .inr ⟨if_pos rfl,rfl,hx.v (ZW (h:=st.heap) hsl x)⟩
 have hl0:look OB.dead ((r0,OB.row [] e sz 0)::st.heap) r0=.row [] e sz 0:=by rw [Qb,if_pos rfl]
 obtain ⟨v',w',g,hr,I',hR,H⟩:=I0.append (P:=P) (r':=r') hl0 hu (by simp) (by rw [Qb,if_neg hne];exact f1) (by simp only [Zi,OB.has,Bool.false_or];exact f2) f4 T ty i v bytes t1 t2 t3 t4 t5 t6 hsz ad m c vs c1 c2 (by unfold maxLen;omega) (by simpa using hb);refine ⟨v',w',?_,?_⟩
 ·simp only [execOp,resolve,invoke,builtin,Sem.run_bind,Sem.run_pure,Result.andThen_ok,List.map_toArray,List.map_cons,List.map_nil,e1,hr]
 ·have k:=Sat.put I' h0 hnn (fun s=>Y7 H (WP f3) (Y7 (r:=r0) (g:=none) (Adv.refl _ _) (WP g3) (hsl s))) hd hR;refine k.congr (fun s=>?_) (fun r=>?_)
  ·show look AV.any ((d,.osl r' m)::st.slots) s=look AV.any ((d,.osl r' (0+m))::st.slots) s;rw [Nat.zero_add]
  ·show look OB.dead ((r',OB.row news e sz 0)::st.heap) r=look OB.dead ((r',OB.row ([]++news) e sz 0)::(r0,.dead)::(r0,.row [] e sz 0)::st.heap) r;rw [List.nil_append,Qb,Qb];split
   ·rfl
   ·rw [Qb];split
    ·next e2=>subst e2;cases hz:look OB.dead st.heap r0 <;> rw [hz] at g1 <;> first | rfl | cases g1
    ·next e2=>rw [Qb,if_neg e2]
theorem Qx1 {n q:Nat} {x:EV} {ns:List Nat} (h:QiG x) (hn:n < ns.length) {w:World} {Pub:Nat→Nat→Prop} {φ:Qt} {u:Value} (k:RA w Pub (loc φ [q]) x.av u):RA w Pub (loc φ (ns.set n q)) (toL n x).av u:=by
 cases x
 case osl j m =>
  have hj:j=0:=h;subst hj;have e1:loc φ [q] 0=φ q:=Qba rfl;have e2:loc φ (ns.set n q) n=φ q:=Qba (by rw [List.getElem?_set_self hn]);unfold toL;unfold EV.av RA at k ⊢;rw [e1] at k;rw [e2];exact k
 all_goals exact (Je _ u h).2 ((Je _ u h).1 k)
theorem QvL {n sz:Nat} {f g:Nat→Nat→EV}:avC (n+1) sz (raJ n f g)=avC n sz f++avC 1 sz (fun a b=>toL n (g a b)):=by
 unfold avC;rw [List.range_succ,List.flatMap_append];congr 1
 ·exact QbO fun i hi j _=>by unfold raJ;rw [show Qy6 i n=true from Qy8.mpr hi];rfl
 ·simp only [Qzi,Qzj,Qzl,Qzf];refine List.map_congr_left fun j _=>?_
  have:Qy6 n n=false:=by
   cases hb:Qy6 n n with
   | false=>rfl
   | true=>rw [Qy8] at hb;omega
  unfold raJ;rw [this];rfl
theorem Qx2 {T e:TypeId} {x y:Operand} {sz by_:Nat} {z:List Value} {u v:EV} {R:RS} (S:Sub vs bs st) (h:raA bs d e sz u v=some R) (hC:∀ c∈R.C,c) (hf:∀ p∈R.hp,(ob_ bs p.1).alive=true∨st.free kp p.1=true) (hnd:(ob_ bs (nmB d)).alive=false)
  (hd:Qy6 d n=true) (hT:Qdm P T=some (e,sz,by_,z)) (hsz:0 < sz) (hby:by_≤10000) (hx:Gv (st.as.ev x) u.av) (hy:Gv (st.as.ev y) v.av) :
  Qf P E kp n ops ⟨some d,.call { callee:=.builtin .append,args:=#[x,y],argTypes:=#[T,T] },ty,ps,af,none⟩ st.as (R.app st).as:=by
 unfold raA at h;split at h
 ·next r m =>
  split at h
  ·next r2 m2 =>
   split at h
   ·next k z1 f t ns hb =>
    split at h
    ·next n2 z2 f2 t2 ns2 hb2 =>
     split at h
     ·next q =>
      obtain ⟨hc,h⟩:=QQ h;cases h;simp only [Qy4,Qy8,Bool.not_eq_true'] at hc;obtain ⟨⟨⟨⟨⟨⟨c1,c2⟩,c3⟩,c4⟩,c5⟩,c6⟩,c7⟩:=hc;have e1:=Qe c1;have e2:=Qe c2;have e3:=Qe c3;have e4:=Qe c4;have e5:=Qe c5;subst e1 e2 e3 e4 e5;have hm:=hC (m=k) (by simp);have hk:=hC (k≤1000000) (by simp);have hno:=hC (∀ a,a < k → ∀ b,b < z2→noL k (f a b)) (by simp);have hl0:=hC (∀ b,b < z2→QiG (f2 0 b)) (by simp);subst hm
      have hfr:st.free kp (nmB d)=true:=by
       rcases hf (nmB d,_) (List.mem_cons_self ..) with k | k
       ·rw [hnd] at k;cases k
       ·exact k
      refine (QmI (cells:=avC m z2 f) (cells2:=avC 1 z2 f2) (news:=avC 1 z2 fun a b=>toL m (f2 a b)) (ns':=ns.set m q) (nmB d) hd hx (S.ob hb (by simp)) (Xa _ _ _).symm hy (S.ob hb2 (by simp)) (Xa _ _ _) (by omega) hT hsz (by
        have:(m+1) * by_≤1000001 * 10000:=Qzg (by omega) hby
        omega) (by omega) (by rw [Zc];exact hfr) c7 (fun w Pub φ vs k=>QfP (fun i hi j hj u k=>Qsr (hno i hi j hj) k) k) (fun w Pub φ vs k=>QfP (fun i hi j hj u k=>by
        obtain rfl:i=0:=by omega
        exact Qx1 (hl0 j hj) c6 k) k)).cast ?_
      rw [← QvL];rfl
     ·cases h
    ·cases h
   ·cases h
  ·cases h
 ·cases h
theorem QmX {T:TypeId} {x y:Operand} {u v:EV} {R:RS} (hP:tab.ok P) (S:Sub vs bs st) (h:QiJ tab bs d T u v=some R) (hC:∀ c∈R.C,c) (hf:∀ p∈R.hp,(ob_ bs p.1).alive=true∨st.free kp p.1=true) (hnd:(ob_ bs (nmB d)).alive=false) (hnz:(ob_ bs (nmZ d)).alive=false)
  (hd:Qy6 d n=true) (hx:Gv (st.as.ev x) u.av) (hy:Gv (st.as.ev y) v.av) :
  Qf P E kp n ops ⟨some d,.call { callee:=.builtin .append,args:=#[x,y],argTypes:=#[T,T] },ty,ps,af,none⟩ st.as (R.app st).as:=by
 unfold QiJ at h;split at h
 ·next e sz by_ z _ _ _ _ hti =>
  obtain ⟨_,_,hT,hsz,hz⟩:=(TT.find_ok hP hti).sl e sz by_ z rfl
  cases hc:Qzn by_ 10000 && Qzn 1 sz with
  | false=>rw [hc] at h;cases h
  | true =>
   rw [hc] at h;simp only [cond_true] at h;simp only [Qy4,Nat.ble_eq] at hc;split at h
   ·next C src hsrc =>
    cases hs:src.szOk sz with
    | false=>rw [hs] at h;cases h
    | true =>
     rw [hs] at h;simp only [cond_true] at h;split at h
     ·next r m =>
      cases hk:(ob_ bs r).okSz sz e with
      | false=>rw [hk] at h;cases h
      | true =>
       rw [hk] at h;simp only [cond_true] at h;split at h
       ·next eb hj =>
        cases h;have hC1:∀ c∈C,c:=fun c hc=>hC c (Qy7 _ hc);have hC2:∀ c∈src.okC sz,c:=fun c hc=>hC c (Qy5 _ (Qy7 _ hc));have hC3:∀ c∈(ob_ bs r).lenC sz m,c:=fun c hc=>hC c (Qy5 _ (Qy5 _ (Qy7 _ hc)));have hC4:m+src.len≤1000000000:=hC _ (Qy5 _ (Qy5 _ (Qy5 _ (Qy3.2 rfl))));obtain ⟨j1,j2⟩:=Qsw hj hk hs hC2
        have hl:st.as.ob r=.row (ob_ bs r).pvs e sz (ob_ bs r).pub:=by
         rw [S.ob rfl (by intro e2;rw [e2] at hk;cases hk),j2]
        have hn:m * sz=(ob_ bs r).pvs.length:=by
         cases hq:ob_ bs r with
         | rb l t p =>
          rw [hq] at hC3 hk;simp only [EB.okSz,Qy4] at hk;have e1:=Qe hk.1;subst e1;have:=hC3 (m=l.length) (by simp [EB.lenC]);simp [EB.pvs,this]
         | rz m' z' f t p =>
          rw [hq] at hC3 hk;simp only [EB.okSz,Qy4] at hk;have e1:=Qe hk.1;subst e1;have:=hC3 (m=m') (by simp [EB.lenC]);rw [this];exact (WX m' z' f).symm
         | row l t z' p =>
          rw [hq] at hC3 hk;have:=hC3 (m * sz=l.length) (by simp [EB.lenC]);simp [EB.pvs,this,Qu]
         | box _ _=>rw [hq] at hk;cases hk
         | mp _=>rw [hq] at hk;cases hk
         | it _ _ _ _=>rw [hq] at hk;cases hk
         | dead=>rw [hq] at hk;cases hk
         | bz _ _ _=>rw [hq] at hk;cases hk
         | ra _ _ _ _ _=>rw [hq] at hk;cases hk
        have hfr:st.free kp (nmB d)=true:=by
         rcases hf (nmB d,eb) (by simp) with k | k
         ·rw [hnd] at k;cases k
         ·exact k
        refine (QrZ (nmB d) hx hl hn (Qom S hsrc hC1 hs hC2 hsz hy) hT hsz (by
         have:(m+src.len) * by_≤1000000000 * 10000:=Qzg hC4 hc.1
         omega) (by omega) (by rw [Zc];exact hfr) hd).cast ?_
        rw [← j1];rfl
       ·cases h
     ·cases h;have hC1:∀ c∈C,c:=fun c hc=>hC c (Qy7 _ hc);have hC2:∀ c∈src.okC sz,c:=fun c hc=>hC c (Qy5 _ (Qy7 _ hc));have hC4:src.len≤1000000000:=hC _ (Qy5 _ (Qy5 _ (Qy3.2 rfl)))
      have hfr:st.free kp (nmB d)=true:=by
       rcases hf (nmB d,Qvk e sz src) (by simp) with k | k
       ·rw [hnd] at k;cases k
       ·exact k
      have hfz:st.free kp (nmZ d)=true:=by
       rcases hf (nmZ d,.dead) (by simp) with k | k
       ·rw [hnz] at k;cases k
       ·exact k
      refine (Qky (nmB d) (nmZ d) hx (Qom S hsrc hC1 hs hC2 hsz hy) hT hsz (by
         have:src.len * by_≤1000000000 * 10000:=Qzg hC4 hc.1
         omega) (by omega) (by rw [Zc];exact hfr) (by rw [Zc];exact hfz) (by unfold nmZ nmB;omega) hd).wk ?_
      intro a w hsat;refine Sat.congr (st:=AS.mk ((d,.osl (nmB d) src.len)::st.as.slots) ((nmB d,.row src.pvs e sz 0)::st.as.heap)) (fun s=>rfl) (fun r=>?_) hsat;show look OB.dead ((nmB d,(Qvk e sz src).ob)::(nmZ d,.dead)::obs st.heap) r=look OB.dead ((nmB d,.row src.pvs e sz 0)::obs st.heap) r;rw [QvK hs];by_cases e1:nmB d=r
      ·rw [Qb,if_pos e1,Qb,if_pos e1]
      ·rw [Qb,if_neg e1,Qb];rw [Qb,if_neg e1];split
       ·next e2 =>
        subst e2;have:=(QE (st:=st.as) (kp:=kp) (r:=nmZ d) (by rw [Zc];exact hfz)).1;have h2:look OB.dead (obs st.heap) (nmZ d)=look OB.dead st.as.heap (nmZ d):=rfl;rw [h2];cases hz:look OB.dead st.as.heap (nmZ d) <;> rw [hz] at this <;> first | rfl | cases this
       ·rfl
     ·cases h
   ·exact Qx2 S h hC hf hnd hd hT hsz hc.1 hx hy
 ·cases h
end
end
section
open Go.RowKit
section
variable {P:Program} {E:Env} {kp:List Nat} {n:Nat} {ops:Array Oper} {d:Nat} {ty:TypeId} {ps:String} {af:Array Edge}
variable {tab:TT} {vs:List (Nat×EV)} {bs:List (Nat×EB)} {st:ES}
theorem Ve {x:EV} {i:Int} (h:YQ x=some i):Gv x.av (.p (Qek i)):=by rw [YR h];exact Gv.r
theorem Qsx {T:TypeId} {ti:TI} (h:TIok P T ti):∃ dd,P.underlying T=some dd:=by
 have:=h.agg;unfold WB at this
 cases hq:P.underlying T with
 | none=>rw [hq] at this;cases this
 | some dd=>exact ⟨dd,rfl⟩
theorem Qkz {T T':TypeId} {x:Operand} {R:RS} (hP:tab.ok P) (S:Sub vs bs st) (h:QfG tab vs bs d T T' x=some R) (hC:∀ c∈R.C,c) (hf:∀ p∈R.hp,(ob_ bs p.1).alive=true∨st.free kp p.1=true) (hnd:(ob_ bs (nmB d)).alive=false) (hd:Qy6 d n=true) :
  Qf P E kp n ops ⟨some d,.convert T T' x,ty,ps,af,none⟩ st.as (R.app st).as:=by
 unfold QfG at h;split at h
 ·next k _ _ _ _ k' _ _ _ _ hti hti' =>
  have hT:=TT.find_ok hP hti;have hT':=TT.find_ok hP hti';split at h
  ·next k2 =>
   split at h
   ·next y hy =>
    cases h;obtain ⟨dd,hdd⟩:=Qsx hT;exact Qsk hy hdd (hT'.int _ rfl) hd (S.v x)
   ·cases h
  ·split at h
   ·split at h
    ·next l hl =>
     cases h;have e:=Yc hl;exact QpQ (by have:=S.v x;rw [e] at this;exact this) (hT.str rfl) (hT'.str rfl) hd
    ·cases h
   ·next e sz by_ z =>
    cases hu:Qdy tab e sz by_ z with
    | false=>rw [hu] at h;cases h
    | true =>
     rw [hu] at h;simp only [cond_true] at h;obtain ⟨u1,u2,u3,u4⟩:=QcB hP hu;obtain ⟨s1,_⟩:=hT.sl e sz by_ z rfl;split at h
     ·next l R' hR =>
      cases h;obtain ⟨k1,k2,k3⟩:=QfS (E:=E) (kp:=kp) (n:=n) S hR hC;exact (Qfk (st:=(R'.app st).as) k2 s1 u1 (hT'.str rfl) hd).pre k1
     ·next R' hR =>
      cases h;obtain ⟨k1,k2,k3⟩:=QfS (E:=E) (kp:=kp) (n:=n) S hR hC
      have g:Gv ((R'.app st).as.ev x) (.p (ZD [])):=k2.trans (by
       show Gv (.p (.v (.slice none 0 0))) (.p (.sl [] 0))
       exact Gv.nilSl)
      exact (Qfk (st:=(R'.app st).as) g s1 u1 (hT'.str rfl) hd).pre k1
     ·cases h
   ·cases h
  ·next e sz by_ z =>
   split at h
   ·cases hu0:Qdy tab e sz by_ z && Qzb e 5 with
    | false=>rw [hu0] at h;cases h
    | true =>
     rw [hu0] at h;simp only [cond_true] at h;rw [Qy4] at hu0;obtain ⟨hu,hu1⟩:=hu0;obtain ⟨u1,u2,u3,u4⟩:=QcB hP hu;obtain ⟨s1,_⟩:=hT'.sl e sz by_ z rfl;split at h
     ·next l hl =>
      cases h;have e1:=Yc hl
      have hfr:st.free kp (nmB d)=true:=by
       rcases hf (nmB d,.rb l e 0) (by simp) with k | k
       ·rw [hnd] at k;cases k
       ·exact k
      have hlen:l.length≤1000000000:=hC _ (Qy3.2 rfl);exact QmD (nmB d) (by have:=S.v x;rw [e1] at this;exact this) (hT.str rfl) s1 u1 (by omega) (Qe hu1) (by rw [Zc];exact hfr) hd
     ·cases h
   ·obtain ⟨hc,h2⟩:=QQ h;clear h;simp only [Qy4] at hc;have eT:=Qe hc.1;subst eT;obtain ⟨u1,u2,u3,u4⟩:=QcB hP hc.2;obtain ⟨s1,_⟩:=hT'.sl e sz by_ z rfl;split at h2
    ·next r m hx =>
     split at h2
     ·next l t pub hb =>
      obtain ⟨ht,h2⟩:=QQ h2;cases h2;exact QpW (by have:=S.v x;rw [hx] at this;exact this) (S.ob hb (by simp)) s1 u1 (hC _ (Qy3.2 rfl)) (Qe ht) hd
     ·cases h2
    ·cases h2
   ·cases h
  ·cases h
 ·cases h
theorem QkA (o:Option Operand):optE vs o=o.map (Qw vs):=by cases o <;> rfl
theorem Qp8 {T:TypeId} {x:Operand} {lo hi:Option Operand} {R:RS} (hP:tab.ok P) (S:Sub vs bs st) (h:QmQ tab vs bs d T x lo hi=some R) (hC:∀ c∈R.C,c) (hd:Qy6 d n=true) :
  Qf P E kp n ops ⟨some d,.slice T x lo hi none,ty,ps,af,none⟩ st.as (R.app st).as:=by
 unfold QmQ at h;split at h
 ·next y R' hR =>
  split at h
  ·next C z hz =>
   cases h;have hC1:∀ c∈R'.C,c:=fun c hc=>hC c (Qy7 _ hc);have hC2:∀ c∈C,c:=fun c hc=>hC c (Qy5 _ hc);obtain ⟨k1,k2,k3⟩:=QfS (E:=E) (kp:=kp) (n:=n) S hR hC1;rw [QkA,QkA] at hz;refine (QvF (st:=(R'.app st).as) hP hz hC2 hd k2 (fun q _ hi=>?_)).pre k1;rw [k3 q (fun r m e=>by rw [e] at hi;cases hi)];exact S.v q
  ·cases h
 ·cases h
theorem Qon {T:TypeId} {x:Operand} {u:EV} {i:Int} {st:AS} {ti:TI} (hT:TIok P T ti) (h:Qsf u=some i) (hk:(∃ e sz b z,ti.k=.sl e sz b z)∨ti.k=.str) (hok:(∃ e sz b z,ti.k=.sl e sz b z)→asS u=none) (hok2:ti.k=.str→(asS u).isSome=true) (hd:Qy6 d n=true) (hx:Gv (st.ev x) u.av) :
  Qf P E kp n ops ⟨some d,.call { callee:=.builtin .len,args:=#[x],argTypes:=#[T] },ty,ps,af,none⟩ st (st.put d (EV.i i).av):=by
 rcases hk with ⟨e,sz,b,z,hk⟩ | hk
 ·obtain ⟨_,hs,_⟩:=hT.sl e sz b z hk;have hn:=hok ⟨e,sz,b,z,hk⟩;unfold Qsf at h;split at h
  ·next l=>cases h;exact Qit (m:=l.length) hd hx hs
  ·next m s f=>cases h;exact Qit (m:=m) (cells:=lzC m s f) hd (by have h3:=hx;unfold EV.av EV.pv at h3;exact h3) hs
  ·next m=>cases h;exact Qit hd hx hs
  ·next r m=>cases h;exact QrR hd hx hs
  ·next a m c=>cases h;exact QrQ hd hx hs
  ·simp [asS] at hn
  ·cases h
 ·have hs:=hT.str hk;have hn:=hok2 hk
  cases ha:asS u with
  | none=>rw [ha] at hn;cases hn
  | some l =>
   have e:=Yc ha;subst e;unfold Qsf at h;cases h;exact QrS hd hx hs
theorem QvM {α:Type} {a:Array α} {x:α} (h:a.toList=[x]):a = #[x]:=by cases a;simp at h;rw [h]
theorem QkB {α:Type} {a:Array α} {x y:α} (h:a.toList=[x,y]):a = #[x,y]:=by cases a;simp at h;rw [h]
theorem QkC {b:Builtin} {args:Array Operand} {argTypes:Array TypeId} {R:RS} (hP:tab.ok P) (S:Sub vs bs st) (h:QfH tab vs bs d b args.toList ty argTypes.toList=some R) (hC:∀ c∈R.C,c)
  (hf:∀ p∈R.hp,(ob_ bs p.1).alive=true∨st.free kp p.1=true) (hnd:(ob_ bs (nmB d)).alive=false) (hnz:(ob_ bs (nmZ d)).alive=false) (hd:Qy6 d n=true) :
  Qf P E kp n ops ⟨some d,.call { callee:=.builtin b,args:=args,argTypes:=argTypes },ty,ps,af,none⟩ st.as (R.app st).as:=by
 unfold QfH at h;split at h
 ·next x T h1 h2 =>
  have e1:=QvM h1;have e2:=QvM h2;subst e1 e2;split at h
  ·next e sz by_ z _ _ _ _ hti =>
   cases hs:asS (Qw vs x) with
   | some l=>rw [hs] at h;cases h
   | none =>
    rw [hs] at h;simp only at h
    cases hl:Qsf (Qw vs x) with
    | none=>rw [hl] at h;cases h
    | some i=>rw [hl] at h;cases h;exact Qon (TT.find_ok hP hti) hl (.inl ⟨_,_,_,_,rfl⟩) (fun _=>hs) (fun k=>by cases k) hd (S.v x)
  ·next hti =>
   cases hs:asS (Qw vs x) with
   | none=>rw [hs] at h;cases h
   | some l =>
    rw [hs] at h;cases h;refine Qon (u:=.s l) (TT.find_ok hP hti) rfl (.inr rfl) (fun ⟨_,_,_,_,k⟩=>by cases k) (fun _=>rfl) hd (by have:=S.v x;rw [Yc hs] at this;exact this)
  ·next K V _ _ _ _ hti =>
   split at h
   ·next r hx =>
    split at h
    ·next es hb =>
     cases h;have gx:=S.v x;rw [hx] at gx;exact Qr5 ((TT.find_ok hP hti).mp K V rfl).u gx (S.ob hb (by simp)) hd
    ·cases h
   ·cases h
  ·cases h
 ·next x y T T' h1 h2 =>
  have e1:=QkB h1;have e2:=QkB h2;subst e1 e2;split at h
  ·next e s z zz _ _ _ _ hti =>
   cases hs:Qzb s 1 with
   | false=>rw [hs] at h;cases h
   | true =>
    rw [hs] at h;simp only [cond_true] at h;have es:=Qe hs;subst es;split at h
    ·next r m hx =>
     split at h
     ·next l t pub ho =>
      cases ht:Qzb t e with
      | false=>rw [ht] at h;cases h
      | true =>
       rw [ht] at h;simp only [cond_true] at h;have et:=Qe ht;subst et;have gx:=S.v x;rw [hx] at gx;have gy:=S.v y;have hob:=S.ob ho (by simp);have hT:=((TT.find_ok hP hti).sl _ _ _ _ rfl).2.1;split at h
       ·next q hq =>
        cases h;have c1:m=l.length:=hC (m=l.length) (by simp);have c2:0 < m:=hC (0 < m) (by simp);have c3:pub=0:=hC (pub=0) (by simp)
        have em:QD (l.map b8P) 0 ((q.take m).map b8P)=(q.take m++l.drop (q.take m).length).map b8P:=by
         rw [Qhn _ _ (by simp;omega),List.map_append,List.map_drop,Qzm]
        have eb:(EB.rb (q.take m++l.drop (q.take m).length) t pub).ob=.row (QD (l.map b8P) 0 ((q.take m).map b8P)) t 1 pub:=by rw [em];rfl
        split at hq
        ·next m' hm' =>
         cases hq;have:=Yc hm';rw [this] at gy;refine (QpV (T2:=T') gx hob gy hT (by rw [Qzm];omega) c2 c3 hd).cast ?_;show AS.mk _ _=AS.mk ((d,EV.av (.i _))::st.as.slots) ((r,EB.ob _)::st.as.heap);rw [eb];rfl
        ·split at hq
         ·next m' hm' =>
          cases hq;rw [hm'] at gy;refine (Qr2 (T2:=T') gx hob gy hT (by rw [Qzm];omega) c2 c3 hd).cast ?_;show AS.mk _ _=AS.mk ((d,EV.av (.i _))::st.as.slots) ((r,EB.ob _)::st.as.heap);rw [eb];rfl
         ·cases hq
       ·cases h
     ·cases h
    ·cases h
  ·cases h
 ·next x y T T' h1 h2 =>
  have e1:=QkB h1;have e2:=QkB h2;subst e1 e2
  cases hc:Qzb T T' with
  | false=>rw [hc] at h;cases h
  | true =>
   rw [hc] at h;have e:=Qe hc;subst e;exact QmX hP S h hC hf hnd hnz hd (S.v x) (S.v y)
 ·next x y T1 T2 h1 h2 =>
  have e1:=QkB h1;have e2:=QkB h2;subst e1 e2;split at h
  ·next hti =>
   split at h
   ·next i j hi hj=>cases h;exact S_min ((S.v x).trans (Ve hi)) ((S.v y).trans (Ve hj)) hd ((TT.find_ok hP hti).int _ rfl)
   ·cases h
  ·split at h
   ·next i j hi hj=>cases h;exact QxO (by have:=S.v x;rw [Yc hi] at this;exact this) (by have:=S.v y;rw [Yc hj] at this;exact this) hd
   ·cases h
  ·cases h
 ·next x y T1 T2 h1 h2 =>
  have e1:=QkB h1;have e2:=QkB h2;subst e1 e2;split at h
  ·next hti =>
   split at h
   ·next i j hi hj=>cases h;exact S_max ((S.v x).trans (Ve hi)) ((S.v y).trans (Ve hj)) hd ((TT.find_ok hP hti).int _ rfl)
   ·cases h
  ·next hti =>
   split at h
   ·next i j hi hj=>cases h;exact QxN ((S.v x).trans (Qbb hi)) ((S.v y).trans (Qbb hj)) hd ((TT.find_ok hP hti).int _ rfl)
   ·cases h
  ·split at h
   ·next i j hi hj=>cases h;exact QxP (by have:=S.v x;rw [Yc hi] at this;exact this) (by have:=S.v y;rw [Yc hj] at this;exact this) hd
   ·cases h
  ·cases h
 ·cases h
theorem QfU {T:TypeId} {len:Nat} {parts:List (Nat×Operand)} {R:RS} (h:Xx tab vs d T len parts=some R):∀ p∈R.hp,p.1=nmB d:=by
 unfold Xx at h;split at h
 ·next e sz by_ z _ _ _ _ hti =>
  split at h
  ·next l hl =>
   cases hc:Qzb parts.length len && Qzn (len * sz) 1000000 with
   | false=>rw [hc] at h;cases h
   | true =>
    rw [hc] at h;simp only [cond_true] at h;split at h
    ·cases hu:Qdy tab e sz by_ z with
     | false=>rw [hu] at h;cases h;intro p hp;rw [Qy3.1 hp]
     | true=>rw [hu] at h;cases h;intro p hp;rw [Qy3.1 hp]
    ·cases h;intro p hp;rw [Qy3.1 hp]
  ·split at h
   ·split at h
    ·obtain ⟨_,h⟩:=QQ h;cases h;intro p hp;rw [Qy3.1 hp]
    ·cases h
   ·cases h
 ·cases h
theorem Qsy {T:TypeId} {x y:EV} {R:RS} (h:Qkt tab d T x y=some R):∀ p∈R.hp,p.1=nmB d:=by
 unfold Qkt at h;split at h
 ·split at h
  ·next e sz by_ z _ _ _ _ hti =>
   cases hu:Qdy tab e sz by_ z with
   | true=>rw [hu] at h;cases h;intro p hp;rw [Qy3.1 hp]
   | false =>
    rw [hu] at h;simp only [cond_false] at h
    cases hb:Qzn by_ 10000 with
    | false=>rw [hb] at h;cases h
    | true=>rw [hb] at h;cases h;intro p hp;rw [Qy3.1 hp]
  ·cases h
 ·cases h
theorem JK {wr:Bool} {o:Op} {R:RS} (hP:tab.ok P) (S:Sub vs bs st) (h:opF tab vs bs d wr ty o=some R) (hC:∀ c∈R.C,c)
  (hf:∀ p∈R.hp,(ob_ bs p.1).alive=true∨st.free kp p.1=true) (hnd:(ob_ bs (nmB d)).alive=false) (hnz:(ob_ bs (nmZ d)).alive=false) (hd:Qy6 d n=true) :
  Qf P E kp n ops ⟨some d,o,ty,ps,af,none⟩ st.as (R.app st).as:=by
 have fr:∀ eb:EB,(nmB d,eb)∈R.hp→st.free kp (nmB d)=true:=fun eb hm=>by
  rcases hf _ hm with k | k
  ·rw [hnd] at k;cases k
  ·exact k
 have one:∀ {C:List Prop} {z:EV},Qf P E kp n ops ⟨some d,o,ty,ps,af,none⟩ st.as (st.as.put d z.av)→R=⟨C,[(d,z)],[]⟩→Qf P E kp n ops ⟨some d,o,ty,ps,af,none⟩ st.as (R.app st).as:=fun k e=>by subst e;exact k
 have oneO':∀ {q:Option (List Prop×EV)},QmM d q=some R→∃ C z,q=some (C,z)∧R=⟨C,[(d,z)],[]⟩:=fun {q} k=>by
  unfold QmM at k;split at k
  ·next C z=>cases k;exact ⟨C,z,rfl,rfl⟩
  ·cases k
 unfold opF at h;split at h
 ·rw [EV.fc_eq] at h;cases h;exact QpL (.inl rfl) hd (S.v _)
 ·rw [EV.fc_eq] at h;cases h;exact QpL (.inr rfl) hd (S.v _)
 ·next x =>
  split at h
  ·next g hg=>cases h;exact S_not (by have:=S.v x;rw [Qdz hg] at this;exact this) hd
  ·cases h
 ·next x =>
  split at h
  ·next i hi =>
   obtain ⟨C,z,k1,k2⟩:=oneO' h;have hx:Gv (st.as.ev x) (.p (Qek i)):=(S.v x).trans (Ve hi);refine one ?_ k2;subst k2;unfold arF at k1
   cases wr with
   | true=>cases k1;exact Qxn hx rfl hd
   | false =>
    cases k1;have:=hC (-9223372036854775808 ≤ -i ∧ -i≤9223372036854775807) (by simp);exact Qxn hx (w64 this.1 this.2) hd
  ·cases h
 ·next x =>
  split at h
  ·next y hy=>cases h;exact Qvs hy hd (S.v x)
  ·cases h
 ·next op T x y _ =>
  split at h
  ·next hti =>
   split at h
   ·next i j hi hj =>
    split at h
    ·next z hz =>
     cases h;exact Qsi hz ((TT.find_ok hP hti).bool rfl) hd (by have:=S.v x;rw [Qdz hi] at this;exact this) (by have:=S.v y;rw [Qdz hj] at this;exact this)
    ·cases h
   ·cases h
  ·next hti =>
   obtain ⟨hn,h⟩:=QQ h;have gy:=S.v y;rw [Qp2 hn] at gy;obtain ⟨e,hu⟩:=(TT.find_ok hP hti).ptr rfl;split at h
   ·next b hb =>
    have hp:=Qvl hb (S.v x);split at h
    ·cases h;exact Qvc hp gy hu hd
    ·cases h;exact Qvd hp gy hu hd
    ·cases h
   ·cases h
  ·next hti =>
   have hT:=TT.find_ok hP hti;split at h
   ·next xs ys hx hy =>
    have gx:=S.v x;rw [hx] at gx;have gy:=S.v y;rw [hy] at gy;split at h
    ·next b hb =>
     obtain ⟨us,vs',k1,k2,k3,k4,k5⟩:=Qsh hb;obtain ⟨f1,f2⟩:=hT.ks _ rfl;subst k5;split at h
     ·cases h;exact Qu8 gx gy k1 k2 (by decide) f1 hT.agg f2 k3 k4 hd
     ·cases h;exact Qu9 gx gy k1 k2 (by decide) f1 hT.agg f2 k3 k4 hd
     ·cases h
    ·cases h
   ·cases h
  ·obtain ⟨C,z,k1,k2⟩:=oneO' h;refine one ?_ k2;subst k2;exact Qvr k1 hC hd (S.v x) (S.v y)
 ·exact Qkz hP S h hC hf hnd hd
 ·refine Qp6 hP h (fun p hp=>?_) hd;have h':=h;unfold QiH at h';split at h'
  ·cases h';rw [Qy3.1 hp];exact fr _ (Qy3.2 rfl)
  ·cases h'
 ·refine QvI S h hC (fun p hp=>?_) hd;have h':=h;unfold Qvj at h';split at h'
  ·cases h';rw [Qy3.1 hp];exact fr _ (Qy3.2 rfl)
  ·cases hq:Q6 (csE (Qw vs _)) with
   | false=>rw [hq] at h';cases h'
   | true=>rw [hq] at h';cases h';rw [Qy3.1 hp];exact fr _ (Qy3.2 rfl)
 ·exact Qp7 hP S h hd
 ·refine QfT hP S h (fun p hp=>?_) hd;have e:=QfU h p hp;rw [e];obtain ⟨q,eb⟩:=p;simp only at e;subst e;exact fr eb hp
 ·refine Qsv hP h hC (fun p hp=>?_) hd (S.v _) (S.v _);have e:=Qsy h p hp;rw [e];obtain ⟨q,eb⟩:=p;simp only at e;subst e;exact fr eb hp
 ·obtain ⟨C,z,k1,k2⟩:=oneO' h;refine one ?_ k2;subst k2;exact Qsp hP S k1 hC hd (S.v _)
 ·next x =>
  have hx:=S.v x;split at h
  ·next r o hv=>cases h;rw [hv] at hx;exact Qj5 hx hd
  ·next c o hv=>cases h;rw [hv] at hx;exact Qn5 hx hd
  ·next r s i o hv=>cases h;rw [hv] at hx;exact Qj5 hx hd
  ·next m s f i o hv=>cases h;rw [hv] at hx;exact Qn5 hx hd
  ·cases h
 ·split at h
  ·next y hy=>cases h;exact QvE hP hy hd (S.v _)
  ·cases h
 ·obtain ⟨C,z,k1,k2⟩:=oneO' h;refine one ?_ k2;subst k2;exact Qoj hP k1 hC hd (S.v _) (S.v _)
 ·obtain ⟨C,z,k1,k2⟩:=oneO' h;refine one ?_ k2;subst k2;exact Qx0 hP k1 hC hd (S.v _) (S.v _)
 ·exact Qp8 hP S h hC hd
 ·next x i =>
  have hx:=S.v x;split at h
  ·next l hv =>
   split at h
   ·next y hy =>
    cases h;rw [hv] at hx;rw [VD] at hy;exact QpN hd hx (by rw [Qcy,hy];rfl)
   ·cases h
  ·cases h
 ·next T x f =>
  have hx:=S.v x;split at h
  ·next pl _ _ _ _ hti =>
   have hT:=TT.find_ok hP hti;split at h
   ·next o s hpl =>
    split at h
    ·next l hv =>
     split at h
     ·next y hy =>
      cases h;rw [hv] at hx;rw [VD] at hy;refine QrO (fs:=#[]) (pl:=pl.map fun p=>(p.1,p.2.1)) (s:=s) hd hx (hT.st pl rfl) (by rw [Qy9,hpl];rfl) (fun fs fd hu hfd=>?_) (by rw [Qcy,hy];rfl);have k:=hT.fl pl rfl;unfold stNA at k;rw [hu] at k;exact Qhq k hpl (by simpa using hfd)
     ·cases h
    ·cases h
   ·cases h
  ·cases h
 ·next c =>
  split at h
  ·next b hb =>
   obtain ⟨callee,args,argTypes⟩:=c;simp only at hb;subst hb;exact QkC hP S h hC hf hnd hnz hd
  ·cases h
 ·cases h
end
end
end Go.Proofs.YtcebndkiagbddaaGreatDoor
