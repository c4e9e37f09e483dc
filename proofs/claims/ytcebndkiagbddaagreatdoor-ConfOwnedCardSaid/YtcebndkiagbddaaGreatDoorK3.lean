/- A part of the proof: contracts of functions and what they stand on. Written shorter and merged by a program (pack.py). -/
import Derived.Test.YtcebndkiagbddaaGreatDoorK2
set_option linter.unusedVariables false
set_option linter.unusedSimpArgs false
set_option maxRecDepth 100000
set_option maxHeartbeats 4000000
open Array renaming getD_eq_getD_getElem? -> Qxo, getElem?_replicate -> Qxt, getElem?_setIfInBounds -> Qxu, getElem?_eq_getElem -> Qxz, all_eq_true -> QxA, mem_iff_getElem -> QxH, mem_def -> QxM
open Bool renaming and_eq_true -> Qxp, or_eq_true -> Qxq, not_eq_true' -> Qxx
open List renaming mem_range -> Qxr, all_eq_true -> Qxs, contains_iff_mem -> Qxv, range -> Qxw, mem_filter -> Qxy, append_assoc -> QxF, cons_append -> QxG, take_append_of_le_length -> QxI, take_succ_cons -> QxJ, filter_eq_nil_iff -> QxK, mem_cons_of_mem -> QxL, mem_cons -> QxN, filter_append -> QxO, length_append -> QxP, mem_map -> QxQ
open Nat renaming eq_of_beq_eq_true -> QxB, le_refl -> QxD
open Option renaming getD_some -> QxC, map_some -> QxE
namespace Go.Proofs.YtcebndkiagbddaaGreatDoor
section
open Go.RowKit
def QY (ops:Array Oper) (i:Nat):List Nat:=((ops[i]?).map fun o=>(o.after.toList.filter fun e=>Region.binds .any e).map (·.on)).getD []
def Qbj (ops:Array Oper) (s:List Nat):List Nat:=(Qxw ops.size).filter fun j=>s.contains j || s.any fun k=>(QY ops k).contains j
def Qc9 (ops:Array Oper):Nat->List Nat->List Nat
 | 0,s=>s
 | n+1,s=>Qc9 ops n (Qbj ops s)
def Qbk (ops:Array Oper) (m:Nat):Bool :=
 (Qxw m).all (fun i=>((ops[i]?).map fun o=>o.after.all fun e=>!Region.binds .any e || decide (e.on < i)).getD false) &&
 (Qxw ops.size).all (fun i=>decide (i < m) || (Qxw m).all fun j=>(Qc9 ops m (QY ops i)).contains j)
theorem JF {ops:Array Oper} {L:Array Bool} (hdc:∀ i,L.getD i false=true -> ∀ j∈QY ops i,L.getD j false=true) :
  ∀ (n:Nat) (s:List Nat),(∀ j∈s,L.getD j false=true) -> ∀ j∈Qc9 ops n s,L.getD j false=true
 | 0,_,h=>h
 | n+1,s,h=>JF hdc n _ fun j hj=>by
  unfold Qbj at hj;rw [Qxy] at hj;have hj:=hj.2;rw [Qxq,List.any_eq_true] at hj;rcases hj with hj | ⟨k,hk,hj⟩
  ·exact h j (Qxv.1 hj)
  ·exact hdc k (h k hk) j (Qxv.1 hj)
def VJ (n m:Nat):Array Bool:=(Array.range n).map (fun i=>decide (i < m))
def YR (L:Array Bool) (m:Nat):Nat:=((Qxw m).filter fun i=>!L.getD i true).length
theorem QfX (L:Array Bool) (m i:Nat) (hi:i < m) (hs:i < L.size) (hL:L.getD i true=false):YR (L.setIfInBounds i true) m+1=YR L m:=by
 unfold YR
 have e:∀ j,(L.setIfInBounds i true).getD j true=(if i=j then true else L.getD j true):=fun j=>by
  simp only [Qxo,Qxu];by_cases h:i=j
  ·subst h;simp [hs]
  ·simp [h]
 simp only [e];clear e
 induction m with
 | zero=>omega
 | succ m ih =>
  rw [List.range_succ,QxO,QxO,QxP,QxP];by_cases h:i=m
  ·subst h
   have:List.filter (fun j=>!(if i=j then true else L.getD j true)) (Qxw i)=List.filter (fun j=>!L.getD j true) (Qxw i):=by
    apply List.filter_congr;intro j hj;have:=Qxr.1 hj;rw [if_neg (by omega)]
   rw [this];rw [Qxo] at hL;simp [hL]
  ·have:=ih (by omega);rw [<- this];simp [List.filter_cons,h];omega
section
variable {P:Program} {ops:Array Oper} {Q:Exit->Act->World->Prop} {S:World->Prop}
theorem QbV {m:Nat} (hf:Qbk ops m=true) (hm:m<=ops.size) (Inv:(Nat->Bool)->Act->World->Prop)
  (step:∀ (L:Nat->Bool) a w i o (K:Act->World->Prop),i < m->ops[i]? = some o->L i=false->(o.after.all fun e=>!Region.binds .any e || L e.on)=true->Inv L a w ->
   (∀ a w,Inv (fun j=>j == i || L j) a w->K a w)->if Region.wanted o (yielded ops a.tmps)=true then Oper.wp P o a w K Q else K (a.put o.dst undef) w)
  (fin:∀ L a w,(∀ i,i < m->L i=true)->Inv L a w->wpAny P .any ops Q (ops.size - m) (VJ ops.size m) a w) :
  ∀ (f:Nat) (L:Array Bool) (a:Act) (w:World),L.size=ops.size->(∀ i,m<=i->i < ops.size->L.getD i true=false)->(∀ i,L.getD i false=true -> ∀ j∈QY ops i,L.getD j false=true)->YR L m=f->Inv (fun i=>L.getD i true) a w ->
   wpAny P .any ops Q (f+(ops.size - m)) L a w:=by
 unfold Qbk at hf;simp only [Qxp,Qxs,Qxr] at hf;obtain ⟨hlow,hhigh⟩:=hf;intro f
 induction f with
 | zero =>
  intro L a w hs hh hdc hu hI
  have hall:∀ i,i < m->L.getD i true=true:=by
   intro i hi;have h0:(Qxw m).filter (fun i=>!L.getD i true)=[]:=List.length_eq_zero_iff.1 hu;rw [QxK] at h0;simpa using h0 i (Qxr.2 hi)
  have hL:L=VJ ops.size m:=by
   apply Array.ext
   ·simp [VJ,hs]
   ·intro i h1 h2;have hi:i < ops.size:=by omega
    simp only [VJ,Array.getElem_map,Array.getElem_range];by_cases h:i < m
    ·have:=hall i h;rw [Qxo,Qxz h1] at this;simpa [h] using this
    ·have:=hh i (by omega) hi;rw [Qxo,Qxz h1] at this;simpa [h] using this
  rw [Nat.zero_add,hL];exact fin _ a w hall hI
 | succ f ih =>
  intro L a w hs hh hdc hu hI;rw [show f+1+(ops.size - m)=(f+(ops.size - m))+1 from by omega]
  have hex:∃ i,i < m/\L.getD i true=false:=by
   refine Classical.byContradiction fun hn=>?_
   have:(Qxw m).filter (fun i=>!L.getD i true)=[]:=by
    rw [QxK];intro i hi;have hi:=Qxr.1 hi
    cases h:L.getD i true with
    | true=>simp
    | false=>exact absurd ⟨i,hi,h⟩ hn
   unfold YR at hu;rw [this] at hu;simp at hu
  have hready:Region.ready .any ops L≠[]:=by
   have hmin:∀ n i,i<=n->i < m->L.getD i true=false->∃ k,k < m/\L.getD k true=false /\ ∀ j,j < k->L.getD j true=true:=by
    intro n
    induction n with
    | zero=>intro i h0 h1 h2;exact ⟨i,h1,h2,fun j hj=>by omega⟩
    | succ n ihn =>
     intro i h0 h1 h2;by_cases hq:∃ j,j < i/\L.getD j true=false
     ·obtain ⟨j,hj,hj2⟩:=hq;exact ihn j (by omega) (by omega) hj2
     ·refine ⟨i,h1,h2,fun j hj=>?_⟩
      cases h:L.getD j true with
      | true=>rfl
      | false=>exact absurd ⟨j,hj,h⟩ hq
   obtain ⟨i,hi,hi2⟩:=hex;obtain ⟨k,hk,hk2,hk3⟩:=hmin i i (QxD _) hi hi2
   have:k∈Region.ready .any ops L:=by
    unfold Region.ready;rw [Qxy];refine ⟨Qxr.2 (by omega),?_⟩;rw [hk2];have h1:=hlow k hk
    cases ho:ops[k]? with
    | none=>rw [ho] at h1;simp at h1
    | some o =>
     rw [ho] at h1;simp only [QxE,QxC,Bool.not_false,Bool.true_and,QxA] at h1 ⊢;intro e he;have h2:=h1 e he;simp only [Qxq,Qxx,decide_eq_true_eq] at h2 ⊢;rcases h2 with h2 | h2
     ·exact .inl h2
     ·refine .inr ?_;have h3:=hk3 _ h2;have h4:(o.after[e]).on < L.size:=by omega
      rw [Qxo,Qxz h4] at h3 ⊢;simpa using h3
   intro h;rw [h] at this;cases this
  refine ⟨fun h=>absurd h hready,fun i hi=>?_⟩;unfold Region.ready at hi;rw [Qxy] at hi;obtain ⟨hi1,hi2⟩:=hi;have hi1:=Qxr.1 hi1;simp only [Qxp,Qxx] at hi2;obtain ⟨hi2,hi3⟩:=hi2
  have hready2:∀ j∈QY ops i,L.getD j false=true:=by
   unfold QY
   cases ho:ops[i]? with
   | none=>simp
   | some o =>
    rw [ho] at hi3;simp only [QxE,QxC,QxA,Qxq,Qxx] at hi3 ⊢;intro j hj;rw [QxQ] at hj;obtain ⟨e,he,rfl⟩:=hj;rw [Qxy] at he;obtain ⟨x,hx,hx2⟩:=QxH.1 (QxM.2 he.1);rcases hi3 x hx with h2 | h2
    ·rw [hx2,he.2] at h2;cases h2
    ·rw [hx2] at h2;exact h2
  have him:i < m:=by
   refine Classical.byContradiction fun hn=>?_;obtain ⟨k,hk,hk2⟩:=hex;have h1:=hhigh i hi1;simp only [Qxq,decide_eq_true_eq,hn,false_or,Qxs,Qxr] at h1;have h2:=JF hdc m (QY ops i) hready2 k (Qxv.1 (h1 k hk));have h4:k < L.size:=by omega
   rw [Qxo,Qxz h4] at h2 hk2;simp at h2 hk2;rw [h2] at hk2;cases hk2
  cases ho:ops[i]? with
  | none=>rw [ho] at hi3;simp at hi3
  | some o =>
   refine wpOp_step ho fun K' hK'=>?_;rw [ho] at hi3
   have hd:(o.after.all fun e=>!Region.binds .any e || L.getD e.on true)=true:=by
    simp only [QxE,QxC,QxA,Qxq,Qxx] at hi3 ⊢;intro e he;rcases hi3 e he with h2 | h2
    ·exact .inl h2
    ·refine .inr ?_;rw [Qxo] at h2 ⊢
     cases h5:L[o.after[e].on]? with
     | none=>rw [h5] at h2;simp at h2
     | some b=>rw [h5] at h2;simpa using h2
   refine step _ a w i o K' him ho hi2 hd hI fun a' w' hI'=>hK' a' w' (ih _ a' w' (by simp [hs]) ?_ ?_ ?_ ?_)
   ·intro j hj hj2;rw [Qxo,Qxu,if_neg (by omega),<- Qxo];exact hh j hj hj2
   ·intro k hk j hj
    have hmon:∀ j,L.getD j false=true->(L.setIfInBounds i true).getD j false=true:=fun j h=>by
     simp only [Qxo,Qxu] at h ⊢;by_cases h1:i=j
     ·subst h1;simp [show i < L.size by omega]
     ·rw [if_neg h1];exact h
    by_cases h1:i=k
    ·subst h1;exact hmon j (hready2 j hj)
    ·refine hmon j (hdc k ?_ j hj);simp only [Qxo,Qxu,if_neg h1] at hk ⊢;exact hk
   ·have:=QfX L m i him (by omega) hi2;omega
   ·have e:(fun j=>(L.setIfInBounds i true).getD j true)=(fun j=>j == i || L.getD j true):=by
     funext j
     simp only [Qxo,Qxu];by_cases h:i=j
     ·subst h;simp [show i < L.size by omega]
     ·simp [h,Ne.symm h]
    rw [e];exact hI'
theorem JG (n m:Nat) (h:m<=n):YR (Array.replicate n false) m=m:=by
 unfold YR;rw [List.filter_eq_self.2,List.length_range];intro i hi;have:=Qxr.1 hi;rw [Qxo,Qxt,if_pos (by omega)];rfl
end
end
section
open Go.RowKit
structure Eff where
 dst:Option Nat
 val:AV
 hp:List (Nat×OB)
def Eff.sl (e:Eff):List (Nat×AV):=match e.dst with | some d=>[(d,e.val)] | none=>[]
def Eff.is (e:Eff) (s:Nat):Bool:=match e.dst with | some d=>Nat.beq d s | none=>false
def WJ (s:Nat):Nat->List Eff->Option (Nat×AV)
 | _,[]=>none
 | i,e::es=>bif e.is s then some (i,e.val) else WJ s (i+1) es
def Wo (r:Nat):Nat->List Eff->Option (Nat×OB)
 | _,[]=>none
 | i,e::es=>bif (look OB.dead e.hp r).alive then some (i,look OB.dead e.hp r) else Wo r (i+1) es
def QO (i:Nat):List Nat->Bool
 | []=>false
 | j::l=>Nat.beq i j || QO i l
theorem Zw {i:Nat}:∀ {l:List Nat},QO i l=true↔i∈l
 | []=>by simp [QO]
 | j::l=>by
  simp only [QO,Qxq,QxN,Zw (l:=l)];constructor
  ·rintro (h | h)
   ·exact .inl (QxB h)
   ·exact .inr h
  ·rintro (h | h)
   ·subst h;exact .inl (by simp)
   ·exact .inr h
def Qnq (ops:Array Oper) (i:Nat):List Nat:=Qc9 ops ops.size (QY ops i)
def QsS (ops:Array Oper) (o:Oper):List Nat:=o.looksAt ops
def kn (ops:Array Oper) (effs:List Eff) (base:AS) (i s:Nat):Option AV :=
 match WJ s 0 effs with
 | some (j,v)=>bif QO j (QY ops i) then some v else none
 | none=>some (look AV.any base.slots s)
def knH (ops:Array Oper) (effs:List Eff) (base:AS) (i r:Nat):Option OB :=
 match Wo r 0 effs with
 | some (j,v)=>bif QO j (Qnq ops i) then some v else none
 | none=>bif (look OB.dead base.heap r).alive then some (look OB.dead base.heap r) else none
section
variable {P:Program} {E:Env} {kp:List Nat} {n:Nat} {ops:Array Oper} {Q:Exit->Act->World->Prop} {base st st':AS}
def FStep (P:Program) (E:Env) (kp:List Nat) (n:Nat) (ops:Array Oper) (base:AS) (effs:List Eff) (i:Nat) (e:Eff):Prop :=
 ∀ o,ops[i]? = some o -> ∀ st:AS,(∀ s v,QO s (QsS ops o)=true->kn ops effs base i s=some v->look AV.any st.slots s=v)->(∀ r ob,knH ops effs base i r=some ob->st.ob r=ob)->Yi st kp e.hp=true ->
  Qd P E kp n ops o st ⟨e.sl++st.slots,e.hp++st.heap⟩
def QsT (P:Program) (E:Env) (kp:List Nat) (n:Nat) (ops:Array Oper) (base:AS) (effs:List Eff):Prop:=∀ i e,effs[i]? = some e->FStep P E kp n ops base (effs.take i) i e
def Qhn:List Eff->List (Nat×AV)
 | []=>[]
 | e::es=>e.sl++Qhn es
def Qal:List Eff->List (Nat×OB)
 | []=>[]
 | e::es=>e.hp++Qal es
def AF (P:Program) (E:Env) (kp:List Nat) (n:Nat) (ops:Array Oper) (base:AS) (effs:List Eff) (G:Prop):Prop:=QsT P E kp n ops base effs->G
theorem AF.step {effs:List Eff} {G:Prop} {i:Nat} {o:Oper} {e:Eff} (hi:effs.length=i) (ho:ops[i]? = some o)
  (h:∀ st:AS,(∀ s v,QO s (QsS ops o)=true->kn ops effs base i s=some v->look AV.any st.slots s=v)->(∀ r ob,knH ops effs base i r=some ob->st.ob r=ob)->Yi st kp e.hp=true->Qd P E kp n ops o st ⟨e.sl++st.slots,e.hp++st.heap⟩)
  (k:AF P E kp n ops base (effs++[e]) G):AF P E kp n ops base effs G:=fun hs=>k fun j e' hj=>by
 rcases Nat.lt_trichotomy j effs.length with hlt | heq | hgt
 ·rw [List.getElem?_append_left hlt] at hj;rw [QxI (Nat.le_of_lt hlt)];exact hs j e' hj
 ·subst heq;rw [List.getElem?_append_right (QxD _)] at hj;simp at hj;subst hj;rw [QxI (QxD _),List.take_length];subst hi;intro o' ho';rw [ho] at ho';cases ho';exact h
 ·rw [List.getElem?_eq_none (by simp;omega)] at hj;cases hj
theorem AF.val {effs:List Eff} {G:Prop} {i d:Nat} {o:Oper} {v:AV} (hi:effs.length=i) (ho:ops[i]? = some o)
  (h:∀ st:AS,(∀ s v,QO s (QsS ops o)=true->kn ops effs base i s=some v->look AV.any st.slots s=v)->(∀ r ob,knH ops effs base i r=some ob->st.ob r=ob)->Qd P E kp n ops o st (st.put d v))
  (k:AF P E kp n ops base (effs++[⟨some d,v,[]⟩]) G):AF P E kp n ops base effs G:=AF.step (e:=⟨some d,v,[]⟩) hi ho (fun st ha hb _=>h st ha hb) k
theorem Gv.k {s:Nat} {v x:AV} (h:look AV.any st.slots s=v) (hx:Gv v x):Gv (st.ev (.tmp s)) x:=by
 show Gv (look AV.any st.slots s) x;rw [h];exact hx
def JC:List Eff->Bool
 | []=>true
 | e::es=>(match e.dst with | some d=>(WJ d 0 es).isNone | none=>true) && e.hp.all (fun p=>(Wo p.1 0 es).isNone && p.2.alive) && JC es
def rdOk (ops:Array Oper) (effs:List Eff):Bool :=
 (Qxw effs.length).all fun i=>match ops[i]? with
  | none=>true
  | some o=>(QsS ops o).all fun s=>match WJ s 0 effs with
   | none=>true
   | some (k,_)=>Nat.blt k i || QO i (Qnq ops k)
def nmOk (ops:Array Oper) (effs:List Eff) (base:AS) (kp:List Nat):Bool :=
 Yi base kp (Qal effs) &&
 (Qxw effs.length).all fun i=>match effs[i]? with
  | none=>true
  | some e=>e.hp.all fun p=>(Qxw effs.length).all fun j=>Nat.beq i j || (match effs[j]? with
   | none=>true
   | some e'=>!(e'.val.has p.1) && !(WF p.1 e'.hp) || QO i (Qnq ops j))
def Xa (L:Nat->Bool):Nat->List Eff->List (Nat×AV)
 | _,[]=>[]
 | i,e::es=>if L i=true then e.sl++Xa L (i+1) es else Xa L (i+1) es
def YS (L:Nat->Bool):Nat->List Eff->List (Nat×OB)
 | _,[]=>[]
 | i,e::es=>if L i=true then e.hp++YS L (i+1) es else YS L (i+1) es
theorem VK {s:Nat}:∀ {es:List Eff} {i j:Nat} {v:AV},WJ s i es=some (j,v)->i<=j/\j < i+es.length/\∃ e,es[j - i]? = some e/\e.is s=true/\e.val=v
 | [],i,j,v,h=>by simp [WJ] at h
 | e::es,i,j,v,h=>by
  simp only [WJ] at h
  cases he:e.is s with
  | true =>
   rw [he] at h;simp at h;obtain ⟨rfl,rfl⟩:=h;exact ⟨QxD _,by simp,e,by simp,he,rfl⟩
  | false =>
   rw [he] at h;simp at h;obtain ⟨h1,h2,e',h3,h4⟩:=VK h;exact ⟨by omega,by simp;omega,e',by rw [show j - i=(j - (i+1))+1 from by omega];simpa using h3,h4⟩
theorem Je {r:Nat}:∀ {es:List Eff} {i j:Nat} {v:OB},Wo r i es=some (j,v)->i<=j/\j < i+es.length/\∃ e,es[j - i]? = some e/\(look OB.dead e.hp r).alive=true/\look OB.dead e.hp r=v
 | [],i,j,v,h=>by simp [Wo] at h
 | e::es,i,j,v,h=>by
  simp only [Wo] at h
  cases he:(look OB.dead e.hp r).alive with
  | true =>
   rw [he] at h;simp at h;obtain ⟨rfl,rfl⟩:=h;exact ⟨QxD _,by simp,e,by simp,he,rfl⟩
  | false =>
   rw [he] at h;simp at h;obtain ⟨h1,h2,e',h3,h4⟩:=Je h;exact ⟨by omega,by simp;omega,e',by rw [show j - i=(j - (i+1))+1 from by omega];simpa using h3,h4⟩
theorem Qda {s:Nat}:∀ {es:List Eff} {i m j:Nat} {v:AV},WJ s i (es.take m)=some (j,v)->WJ s i es=some (j,v)
 | [],i,m,j,v,h=>by simp [WJ] at h
 | e::es,i,0,j,v,h=>by simp [WJ] at h
 | e::es,i,m+1,j,v,h=>by
  simp only [QxJ,WJ] at h ⊢
  cases he:e.is s with
  | true=>rw [he] at h;exact h
  | false=>rw [he] at h;simp at h ⊢;exact Qda h
theorem Vt {s:Nat}:∀ {es:List Eff} {i m j:Nat} {v:AV},WJ s i (es.take m)=none->WJ s i es=some (j,v)->i+m<=j
 | [],i,m,j,v,_,h=>by simp [WJ] at h
 | e::es,i,0,j,v,_,h=>(VK h).1
 | e::es,i,m+1,j,v,h0,h=>by
  simp only [QxJ,WJ] at h0 h
  cases he:e.is s with
  | true=>rw [he] at h0;simp at h0
  | false=>rw [he] at h0 h;simp at h0 h;have:=Vt h0 h;omega
theorem QbW {r:Nat}:∀ {es:List Eff} {i m j:Nat} {v:OB},Wo r i (es.take m)=some (j,v)->Wo r i es=some (j,v)
 | [],i,m,j,v,h=>by simp [Wo] at h
 | e::es,i,0,j,v,h=>by simp [Wo] at h
 | e::es,i,m+1,j,v,h=>by
  simp only [QxJ,Wo] at h ⊢
  cases he:(look OB.dead e.hp r).alive with
  | true=>rw [he] at h;exact h
  | false=>rw [he] at h;simp at h ⊢;exact QbW h
theorem QfY (e:Eff) (X:List (Nat×AV)) (s:Nat):look AV.any (e.sl++X) s=if e.is s=true then e.val else look AV.any X s:=by
 unfold Eff.sl Eff.is
 cases e.dst with
 | none=>simp
 | some d =>
  simp only [QxG,List.nil_append,Qb];by_cases h:d=s
  ·subst h;simp
  ·rw [if_neg h,if_neg (fun hb=>h (QxB hb))]
theorem QfZ (l X:List (Nat×OB)) (hal:l.all (fun p=>p.2.alive)=true) (r:Nat):look OB.dead (l++X) r=if (look OB.dead l r).alive=true then look OB.dead l r else look OB.dead X r:=by
 induction l with
 | nil=>simp [look,OB.alive]
 | cons p l ih =>
  obtain ⟨k,ob⟩:=p;simp only [List.all_cons,Qxp] at hal;rw [QxG,Qb,Qb];by_cases h:k=r
  ·rw [if_pos h,if_pos h,if_pos hal.1]
  ·rw [if_neg h,if_neg h];exact ih hal.2
theorem QlI {e:Eff} {es:List Eff} (h:JC (e::es)=true) {s:Nat} (hs:e.is s=true):WJ s 0 es=none:=by
 simp only [JC,Qxp] at h;unfold Eff.is at hs
 cases hd:e.dst with
 | none=>rw [hd] at hs;cases hs
 | some d =>
  rw [hd] at hs h;have:=QxB hs;subst this;simpa using h.1.1
theorem VL {s:Nat}:∀ {es:List Eff} (i k:Nat),WJ s i es=none->WJ s k es=none
 | [],i,k,h=>rfl
 | e::es,i,k,h=>by
  simp only [WJ] at h ⊢
  cases he:e.is s with
  | true=>rw [he] at h;simp at h
  | false=>rw [he] at h;simp at h ⊢;exact VL (i+1) (k+1) h
theorem Ve {r:Nat}:∀ {es:List Eff} (i k:Nat),Wo r i es=none->Wo r k es=none
 | [],i,k,h=>rfl
 | e::es,i,k,h=>by
  simp only [Wo] at h ⊢
  cases he:(look OB.dead e.hp r).alive with
  | true=>rw [he] at h;simp at h
  | false=>rw [he] at h;simp at h ⊢;exact Ve (i+1) (k+1) h
theorem XH {e:Eff} {es:List Eff} (h:JC (e::es)=true):JC es=true:=by
 simp only [JC,Qxp] at h;exact h.2
theorem Qf0 {e:Eff} {es:List Eff} (h:JC (e::es)=true):e.hp.all (fun p=>p.2.alive)=true:=by
 simp only [JC,Qxp,Qxs] at h ⊢;exact fun p hp=>(h.1.2 p hp).2
theorem VM:∀ {l:List (Nat×OB)} {r:Nat},(look OB.dead l r).alive=true->(r,look OB.dead l r)∈l
 | [],r,h=>by cases h
 | (k,x)::l,r,h=>by
  rw [Qb] at h ⊢;by_cases e:k=r
  ·subst e;rw [if_pos rfl];simp
  ·rw [if_neg e] at h ⊢;exact QxL _ (VM h)
theorem QlJ {e:Eff} {es:List Eff} (h:JC (e::es)=true) {r:Nat} (hr:(look OB.dead e.hp r).alive=true):Wo r 0 es=none:=by
 simp only [JC,Qxp,Qxs] at h;have:=(h.1.2 _ (VM hr)).1;simpa using this
theorem VN (L:Nat->Bool) (X:List (Nat×AV)) (s:Nat):∀ (es:List Eff) (i:Nat),JC es=true ->
  look AV.any (Xa L i es++X) s=(match WJ s i es with | some (j,v)=>if L j=true then v else look AV.any X s | none=>look AV.any X s)
 | [],i,_=>rfl
 | e::es,i,h=>by
  have ih:=VN L X s es (i+1) (XH h);simp only [Xa,WJ]
  cases he:e.is s with
  | true =>
   have hn:=VL 0 (i+1) (QlI h he);rw [hn] at ih;simp only [cond_true];by_cases hL:L i=true
   ·rw [if_pos hL,if_pos hL,QxF,QfY,if_pos he]
   ·rw [if_neg hL,if_neg hL];exact ih
  | false =>
   simp only [cond_false];rw [<- ih];by_cases hL:L i=true
   ·rw [if_pos hL,QxF,QfY,if_neg (by rw [he];simp)]
   ·rw [if_neg hL]
theorem YK (L:Nat->Bool) (X:List (Nat×OB)) (r:Nat):∀ (es:List Eff) (i:Nat),JC es=true ->
  look OB.dead (YS L i es++X) r=(match Wo r i es with | some (j,v)=>if L j=true then v else look OB.dead X r | none=>look OB.dead X r)
 | [],i,_=>rfl
 | e::es,i,h=>by
  have ih:=YK L X r es (i+1) (XH h);simp only [YS,Wo]
  cases he:(look OB.dead e.hp r).alive with
  | true =>
   have hn:=Ve 0 (i+1) (QlJ h he);rw [hn] at ih;simp only [cond_true];by_cases hL:L i=true
   ·rw [if_pos hL,if_pos hL,QxF,QfZ _ _ (Qf0 h),if_pos he]
   ·rw [if_neg hL,if_neg hL];exact ih
  | false =>
   simp only [cond_false];rw [<- ih];by_cases hL:L i=true
   ·rw [if_pos hL,QxF,QfZ _ _ (Qf0 h),if_neg (by rw [he];simp)]
   ·rw [if_neg hL]
theorem QlK (L:Nat->Bool):∀ (es:List Eff) (i:Nat),(∀ j,i<=j->j < i+es.length->L j=true)->Xa L i es=Qhn es/\YS L i es=Qal es
 | [],i,_=>⟨rfl,rfl⟩
 | e::es,i,h=>by
  obtain ⟨h1,h2⟩:=QlK L es (i+1) (fun j hj hj2=>h j (by omega) (by simp at hj2 ⊢;omega));simp only [Xa,YS,Qhn,Qal];rw [if_pos (h i (QxD _) (by simp)),if_pos (h i (QxD _) (by simp)),h1,h2];exact ⟨rfl,rfl⟩
theorem Sat.congr {a:Act} {w:World} (hs:∀ s,look AV.any st'.slots s=look AV.any st.slots s) (hh:∀ r,look OB.dead st'.heap r=look OB.dead st.heap r) (h:Sat E kp n st a w):Sat E kp n st' a w:=by
 obtain ⟨φ,Pub,I,h0,hn,hsl⟩:=h;exact ⟨φ,Pub,I.sub (fun r=>.inl (hh r)),h0,hn,fun s=>by rw [hs];exact hsl s⟩
theorem QeW {L:Nat->Bool} (hdc:∀ i,L i=true -> ∀ j∈QY ops i,L j=true):∀ (k:Nat) (s:List Nat),(∀ j∈s,L j=true) -> ∀ j∈Qc9 ops k s,L j=true
 | 0,_,h=>h
 | k+1,s,h=>QeW hdc k _ fun j hj=>by
  unfold Qbj at hj;rw [Qxy] at hj;have hj:=hj.2;rw [Qxq,List.any_eq_true] at hj;rcases hj with hj | ⟨k,hk,hj⟩
  ·exact h j (Qxv.1 hj)
  ·exact hdc k (h k hk) j (Qxv.1 hj)
def AD (P:Program) (E:Env) (kp:List Nat) (n:Nat) (ops:Array Oper) (Q:Exit->Act->World->Prop) (fuel:Nat) (listed:Array Bool) (st:AS):Prop:=∀ a w,Sat E kp n st a w->wpAny P .any ops Q fuel listed a w
theorem ZJ (r:Nat):∀ (l m:List (Nat×OB)),WF r (l++m)=(WF r l || WF r m)
 | [],m=>by simp [WF]
 | p::l,m=>by simp only [QxG,WF,ZJ r l m,Bool.or_assoc]
theorem Xb (r:Nat):∀ (l m:List (Nat×AV)),YP r (l++m)=(YP r l || YP r m)
 | [],m=>by simp [YP]
 | p::l,m=>by simp only [QxG,YP,Xb r l m,Bool.or_assoc]
theorem Qho (r:Nat) (L:Nat->Bool):∀ (es:List Eff) (i:Nat),(∀ j e,es[j]? = some e->L (i+j)=true->WF r e.hp=false)->WF r (YS L i es)=false
 | [],i,_=>rfl
 | e::es,i,h=>by
  have ih:=Qho r L es (i+1) (fun j e' hj hL=>h (j+1) e' (by simpa using hj) (by rwa [show i+(j+1)=i+1+j from by omega]));simp only [YS];split
  ·next hL=>rw [ZJ,ih,h 0 e rfl (by simpa using hL)];rfl
  ·exact ih
theorem Qhp (r:Nat) (L:Nat->Bool):∀ (es:List Eff) (i:Nat),(∀ j e,es[j]? = some e->L (i+j)=true->e.val.has r=false)->YP r (Xa L i es)=false
 | [],i,_=>rfl
 | e::es,i,h=>by
  have ih:=Qhp r L es (i+1) (fun j e' hj hL=>h (j+1) e' (by simpa using hj) (by rwa [show i+(j+1)=i+1+j from by omega]));simp only [Xa];split
  ·next hL =>
   rw [Xb,ih];have:=h 0 e rfl (by simpa using hL);unfold Eff.sl;cases e.dst <;> simp [YP,this]
  ·exact ih
theorem Xc:∀ {l:List (Nat×OB)} {p:Nat×OB},Yi st kp l=true->p∈l->st.free kp p.1=true
 | (k,x)::l,p,h,hp=>by
  simp only [Yi,Qxp] at h;rcases QxN.1 hp with e | e
  ·subst e;exact h.1
  ·exact Xc h.2 e
theorem Qdb:∀ {l:List (Nat×OB)},(∀ p∈l,st.free kp p.1=true)->Yi st kp l=true
 | [],_=>rfl
 | (k,x)::l,h=>by
  simp only [Yi,Qxp];exact ⟨h (k,x) (by simp),Qdb fun p hp=>h p (QxL _ hp)⟩
theorem Qbl:∀ {es:List Eff} {i:Nat} {e:Eff} {p:Nat×OB},es[i]? = some e->p∈e.hp->p∈Qal es
 | e::es,0,e',p,h,hp=>by simp at h;subst h;simp [Qal,hp]
 | e::es,i+1,e',p,h,hp=>by simp only [Qal,List.mem_append];exact .inr (Qbl (by simpa using h) hp)
theorem Jf {r:Nat} (h1:(look OB.dead st.heap r).alive=false) (h2:WF r st.heap=false) (h3:YP r st.slots=false) (h4:r ∉ kp):st.free kp r=true:=by
 unfold AS.free;rw [h1,h2,h3]
 have:kp.contains r=false:=by
  cases hc:kp.contains r with
  | false=>rfl
  | true=>exact absurd (Qxv.1 hc) h4
 rw [this];rfl
theorem JR {r:Nat}:∀ {es:List Eff} {i:Nat} {e:Eff},JC es=true->es[i]? = some e->(look OB.dead e.hp r).alive=true -> ∀ k,Wo r k es=some (k+i,look OB.dead e.hp r)
 | e::es,0,e',ho,h,hr,k=>by
  simp at h;subst h;simp only [Wo,hr];rfl
 | e::es,i+1,e',ho,h,hr,k=>by
  have ih:=JR (XH ho) (by simpa using h) hr (k+1);simp only [Wo]
  cases he:(look OB.dead e.hp r).alive with
  | true =>
   have:=Ve 0 (k+1) (QlJ ho he);rw [this] at ih;cases ih
  | false=>simp only [cond_false];rw [ih,show k+1+i=k+(i+1) from by omega]
theorem QeX {s:Nat}:∀ {es:List Eff} {i:Nat} {e:Eff},JC es=true->es[i]? = some e->e.is s=true -> ∀ k,WJ s k es=some (k+i,e.val)
 | e::es,0,e',ho,h,hr,k=>by
  simp at h;subst h;simp only [WJ,hr];rfl
 | e::es,i+1,e',ho,h,hr,k=>by
  have ih:=QeX (XH ho) (by simpa using h) hr (k+1);simp only [WJ]
  cases he:e.is s with
  | true =>
   have:=VL 0 (k+1) (QlI ho he);rw [this] at ih;cases ih
  | false=>simp only [cond_false];rw [ih,show k+1+i=k+(i+1) from by omega]
theorem Qdc {l:List (Nat×OB)} {p:Nat×OB} (hal:l.all (fun p=>p.2.alive)=true) (hp:p∈l):(look OB.dead l p.1).alive=true:=by
 induction l with
 | nil=>cases hp
 | cons q l ih =>
  obtain ⟨k,x⟩:=q;simp only [List.all_cons,Qxp] at hal;rw [Qb];by_cases e:k=p.1
  ·rw [if_pos e];exact hal.1
  ·rw [if_neg e];rcases QxN.1 hp with h | h
   ·subst h;exact absurd rfl e
   ·exact ih hal.2 h
theorem VO:∀ {es:List Eff} {i:Nat} {e:Eff},JC es=true->es[i]? = some e->e.hp.all (fun p=>p.2.alive)=true
 | e::es,0,e',h,hi=>by simp at hi;subst hi;exact Qf0 h
 | e::es,i+1,e',h,hi=>VO (XH h) (by simpa using hi)
theorem AF.done {effs:List Eff} {id m:Nat} (hx:P.follows .mixedOrders=true) (hlen:effs.length=m) (hf:Qbk ops m=true) (hmn:decide (m<=ops.size)=true) (h1:JC effs=true) (h2:rdOk ops effs=true) (h3:nmOk ops effs base kp=true)
  (k:AD P E kp n ops Q (ops.size - m) (VJ ops.size m) ⟨Qhn effs++base.slots,Qal effs++base.heap⟩):AF P E kp n ops base effs (AW P E kp n (.region id ops true) Q base):=by
 intro hs a w hsat;have hm:=of_decide_eq_true hmn;have hf':=hf;unfold Qbk at hf';simp only [Qxp,Qxs,Qxr] at hf';obtain ⟨hlow,_⟩:=hf'
 have hdep:∀ i,i < m -> ∀ j∈QY ops i,j < i:=fun i hi j hj=>by
  have h0:=hlow i hi;unfold QY at hj
  cases ho:ops[i]? with
  | none=>rw [ho] at hj;simp at hj
  | some o =>
   rw [ho] at h0 hj;simp only [QxE,QxC,QxA] at h0 hj;rw [QxQ] at hj;obtain ⟨e,he,rfl⟩:=hj;rw [Qxy] at he;obtain ⟨x,hx,hx2⟩:=QxH.1 (QxM.2 he.1);have:=h0 x hx;rw [hx2] at this;simp only [Qxq,Qxx,decide_eq_true_eq] at this;rcases this with h5 | h5
   ·rw [he.2] at h5;cases h5
   ·exact h5
 let S:(Nat->Bool)->AS:=fun L=>⟨Xa L 0 effs++base.slots,YS L 0 effs++base.heap⟩
 let DC:(Nat->Bool)->Prop:=fun L=>∀ i,i < m->L i=true -> ∀ j∈QY ops i,L j=true
 have hcl:∀ L,DC L -> ∀ i,i < m->(∀ j∈QY ops i,L j=true) -> ∀ j∈Qnq ops i,L j=true:=fun L hDC i hi hd j hj=>by
  have key:=QeW (ops:=ops) (L:=fun x=>L x && decide (x < m)) (fun x hx y hy=>by
   simp only [Qxp,decide_eq_true_eq] at hx ⊢
   exact ⟨hDC x hx.2 hx.1 y hy,Nat.lt_trans (hdep x hx.2 y hy) hx.2⟩) ops.size (QY ops i) (fun y hy=>by
   simp only [Qxp,decide_eq_true_eq]
   exact ⟨hd y hy,Nat.lt_trans (hdep i hi y hy) hi⟩) j hj
  simp only [Qxp] at key;exact key.1
 unfold nmOk at h3;simp only [Qxp,Qxs,Qxr] at h3;obtain ⟨h3a,h3b⟩:=h3;unfold rdOk at h2;simp only [Qxs,Qxr] at h2
 have hfin:=QbV (P:=P) (ops:=ops) (Q:=Q) (m:=m) hf hm (fun L a w=>Sat E kp n (S L) a w/\DC L) ?step ?fin m (Array.replicate ops.size false) a w.drew (by simp) (fun i _ hi=>by
   rw [Qxo,Qxt,if_pos hi];rfl) (fun i hi=>by
   rw [Qxo,Qxt] at hi;split at hi <;> simp at hi) (JG _ _ hm) ⟨?start,fun i hi hL=>by
   simp only [Qxo,Qxt] at hL
   rw [if_pos (by omega)] at hL;simp at hL⟩
 case start =>
  obtain ⟨φ,Pub,I,h0,hn,hsl⟩:=hsat;have:Sat E kp n base a w.drew:=⟨φ,Pub,I.drew,h0,hn,fun s=>QF XB _ _ (fun _ _=>rfl) (hsl s)⟩;refine this.congr (fun s=>?_) (fun r=>?_)
  ·show look AV.any (Xa _ 0 effs++base.slots) s=_;rw [VN _ _ _ _ _ h1]
   cases hk:WJ s 0 effs with
   | none=>rfl
   | some p =>
    obtain ⟨j,v⟩:=p;have:=(VK hk).2.1;simp only;rw [if_neg];simp only [Qxo,Qxt];rw [if_pos (by omega)];simp
  ·show look OB.dead (YS _ 0 effs++base.heap) r=_;rw [YK _ _ _ _ _ h1]
   cases hk:Wo r 0 effs with
   | none=>rfl
   | some p =>
    obtain ⟨j,v⟩:=p;have:=(Je hk).2.1;simp only;rw [if_neg];simp only [Qxo,Qxt];rw [if_pos (by omega)];simp
 case fin =>
  intro L a w hall ⟨hS,_⟩;obtain ⟨e1,e2⟩:=QlK L effs 0 (fun j _ hj=>hall j (by omega));have hS':Sat E kp n ⟨Qhn effs++base.slots,Qal effs++base.heap⟩ a w:=by rw [<- e1,<- e2];exact hS
  exact k a w hS'
 case step =>
  intro L a w i o K hi ho hLi hd ⟨hS,hDC⟩ hK;obtain ⟨e,he⟩:∃ e,effs[i]? = some e:=⟨_,List.getElem?_eq_getElem (by omega)⟩
  have hdL:∀ j∈QY ops i,L j=true:=fun j hj=>by
   unfold QY at hj;rw [ho] at hj;simp only [QxE,QxC] at hj;rw [QxQ] at hj;obtain ⟨x,hx,rfl⟩:=hj;rw [Qxy] at hx;obtain ⟨y,hy,hy2⟩:=QxH.1 (QxM.2 hx.1);rw [QxA] at hd;have:=hd y hy;rw [hy2] at this;simp only [Qxq,Qxx] at this;rcases this with h5 | h5
   ·rw [hx.2] at h5;cases h5
   ·exact h5
  have hC:=hcl L hDC i hi hdL
  have hnot:∀ x,x < m->L x=true->i ∉ Qnq ops x:=fun x hx hLx hmem=>by
   have:=hcl L hDC x hx (hDC x hx hLx) i hmem;rw [hLi] at this;cases this
  have hstep:=hs i e he o ho (S L) (fun s v hrd hkn=>?_) (fun r ob hkn=>?_) (Qdb fun p hp=>?_)
  ·refine hstep a w K Q hS (fun a' w' hs'=>hK a' w' ⟨hs'.congr (fun s=>?_) (fun r=>?_),fun x hx hLx y hy=>?_⟩)
   ·show look AV.any (Xa (fun j=>j == i || L j) 0 effs++base.slots) s=look AV.any (e.sl++(Xa L 0 effs++base.slots)) s;rw [QfY,VN _ _ _ _ _ h1,VN _ _ _ _ _ h1]
    cases hes:e.is s with
    | true =>
     rw [QeX h1 he hes 0,if_pos rfl];simp
    | false =>
     rw [if_neg (by simp)]
     cases hk:WJ s 0 effs with
     | none=>rfl
     | some p =>
      obtain ⟨j,v⟩:=p;simp only
      have hji:j≠i:=fun e2=>by
       subst e2;obtain ⟨_,_,e',h4,h5,_⟩:=VK hk;rw [Nat.sub_zero,he] at h4;cases h4;rw [hes] at h5;cases h5
      simp [hji]
   ·show look OB.dead (YS (fun j=>j == i || L j) 0 effs++base.heap) r=look OB.dead (e.hp++(YS L 0 effs++base.heap)) r;rw [QfZ _ _ (VO h1 he),YK _ _ _ _ _ h1,YK _ _ _ _ _ h1]
    cases hes:(look OB.dead e.hp r).alive with
    | true =>
     rw [JR h1 he hes 0,if_pos rfl];simp
    | false =>
     rw [if_neg (by simp)]
     cases hk:Wo r 0 effs with
     | none=>rfl
     | some p =>
      obtain ⟨j,v⟩:=p;simp only
      have hji:j≠i:=fun e2=>by
       subst e2;obtain ⟨_,_,e',h4,h5,_⟩:=Je hk;rw [Nat.sub_zero,he] at h4;cases h4;rw [hes] at h5;cases h5
      simp [hji]
   ·simp only [Qxq,beq_iff_eq] at hLx ⊢;rcases hLx with rfl | hLx
    ·exact .inr (hdL y hy)
    ·exact .inr (hDC x hx hLx y hy)
  ·
   show look AV.any (Xa L 0 effs++base.slots) s=v;rw [VN _ _ _ _ _ h1];unfold kn at hkn
   cases hk:WJ s 0 (effs.take i) with
   | some p =>
    obtain ⟨j,v'⟩:=p;rw [hk] at hkn;simp only at hkn
    cases hj:QO j (QY ops i) with
    | false=>rw [hj] at hkn;cases hkn
    | true =>
     rw [hj] at hkn;simp at hkn;subst hkn;rw [Qda hk];simp only;rw [if_pos (hdL j (Zw.1 hj))]
   | none =>
    rw [hk] at hkn;simp at hkn;subst hkn
    cases hk2:WJ s 0 effs with
    | none=>rfl
    | some p =>
     obtain ⟨j,v'⟩:=p;have hge:=Vt hk hk2;have hjm:=(VK hk2).2.1;simp only;rw [if_neg];intro hLj;have:=h2 i (by omega);rw [ho] at this;simp only at this;have:=Qxs.1 this s (Zw.1 hrd);rw [hk2] at this;simp only [Qxq] at this;rcases this with h5 | h5
     ·rw [Nat.blt_eq] at h5;omega
     ·exact hnot j (by omega) hLj (Zw.1 h5)
  ·show look OB.dead (YS L 0 effs++base.heap) r=ob;rw [YK _ _ _ _ _ h1];unfold knH at hkn
   cases hk:Wo r 0 (effs.take i) with
   | some p =>
    obtain ⟨j,v'⟩:=p;rw [hk] at hkn;simp only at hkn
    cases hj:QO j (Qnq ops i) with
    | false=>rw [hj] at hkn;cases hkn
    | true =>
     rw [hj] at hkn;simp at hkn;subst hkn;rw [QbW hk];simp only;rw [if_pos (hC j (Zw.1 hj))]
   | none =>
    rw [hk] at hkn;simp only at hkn
    cases hal:(look OB.dead base.heap r).alive with
    | false=>rw [hal] at hkn;cases hkn
    | true =>
     rw [hal] at hkn;simp at hkn;subst hkn
     cases hk2:Wo r 0 effs with
     | none=>rfl
     | some p =>
      obtain ⟨j,v'⟩:=p;obtain ⟨_,hjm,e',h4,h5,h6⟩:=Je hk2;have:=Xc h3a (Qbl h4 (VM h5));have:=(Qu this).1;rw [hal] at this;cases this
  ·
   have hb:=Qu (Xc h3a (Qbl he hp));have hpa:=Qdc (VO h1 he) hp;have h3i:=h3b i (by omega);rw [he] at h3i;simp only [Qxs,Qxr] at h3i
   have hno:∀ j e',effs[j]? = some e'->L j=true->e'.val.has p.1=false/\WF p.1 e'.hp=false:=fun j e' hj hLj=>by
    have hjm:j < effs.length:=(List.getElem?_eq_some_iff.1 hj).1;have:=h3i p hp j hjm;rw [hj] at this;simp only [Qxq,Qxp,Qxx] at this;rcases this with h5 | h5 | h5
    ·have:=QxB h5;subst this;rw [hLi] at hLj;cases hLj
    ·exact h5
    ·exact absurd (Zw.1 h5) (hnot j (by omega) hLj)
   refine Jf ?_ ?_ ?_ hb.2.2.2
   ·show (look OB.dead (YS L 0 effs++base.heap) p.1).alive=false;rw [YK _ _ _ _ _ h1,JR h1 he hpa 0];simp only [Nat.zero_add];rw [if_neg (by rw [hLi];simp)];exact hb.1
   ·show WF p.1 (YS L 0 effs++base.heap)=false;rw [ZJ,hb.2.1,Qho _ _ _ _ (fun j e' hj hLj=>(hno j e' hj (by simpa using hLj)).2)];rfl
   ·show YP p.1 (Xa L 0 effs++base.slots)=false;rw [Xb,hb.2.2.1,Qhp _ _ _ _ (fun j e' hj hLj=>(hno j e' hj (by simpa using hLj)).1)];rfl
 rw [show m+(ops.size - m)=ops.size from by omega] at hfin;exact wp_region_any hx hfin
theorem AD.one {i fuel:Nat} {o:Oper} {listed:Array Bool} (hr:Region.ready .any ops listed=[i]) (hi:ops[i]? = some o) (h:Qd P E kp n ops o st st') (k:AD P E kp n ops Q fuel (listed.setIfInBounds i true) st'):AD P E kp n ops Q (fuel+1) listed st:=by
 intro a w hs;refine ⟨(fun h0=>by rw [hr] at h0;cases h0),fun j hj=>?_⟩;rw [hr] at hj;simp at hj;subst hj;exact wpOp_step hi fun K hK=>h a w K Q hs fun a' w' hs'=>hK _ _ (k a' w' hs')
theorem AD.nil {fuel:Nat} {listed:Array Bool} (hr:Region.ready .any ops listed=[]) (h:To E kp n Q .normal st):AD P E kp n ops Q fuel listed st:=by
 intro a w hs
 cases fuel with
 | zero=>exact ⟨hr,h a w hs⟩
 | succ f=>exact ⟨fun _=>h a w hs,fun i hi=>by rw [hr] at hi;cases hi⟩
end
end
end Go.Proofs.YtcebndkiagbddaaGreatDoor
