/- A part of the proof: contracts of functions and what they stand on. Written shorter and merged by a program (pack.py). -/
import Derived.Test.YtcebndkiagbddaaGreatDoorProg
import Derived.Test.YtcebndkiagbddaaGreatDoorK14
set_option linter.unusedVariables false
set_option linter.unusedSimpArgs false
set_option maxRecDepth 100000
set_option maxHeartbeats 4000000
open Array renaming getD_eq_getD_getElem? -> Qxo, getElem?_replicate -> Qxp, all_eq_true -> QxC
open List renaming replicate -> Qxq, mem_cons -> Qxt, length_cons -> Qxw, rec -> Qxy, mem_cons_of_mem -> QxB
open Bool renaming or_eq_true -> Qxr, and_eq_true -> Qxs, not_eq_true' -> Qxu, or_eq_false_iff -> QxA
open Nat renaming lt_trichotomy -> Qxv, le_refl -> QxD
open Option renaming getD_some -> Qxx, map_some -> Qxz
namespace Go.Proofs.YtcebndkiagbddaaGreatDoor
section
open Go.RowKit
section
variable {P:Program} {E:Env} {kp:List Nat} {n:Nat} {ops:Array Oper}
structure EFok (P:Program) (E:Env) (kp:List Nat) (n:Nat) (ops:Array Oper) (cur:ES) (o:Oper) (e:EF):Prop where
 step:∀ st:ES,(∀ s∈e.rd,look EV.any st.slots s=look EV.any cur.slots s)->(∀ r∈e.tb,look EB.dead st.heap r=look EB.dead cur.heap r)->(∀ r∈e.nw,st.free kp r=true)->Qd P E kp n ops o st.as (ES.as ⟨e.sl++st.slots,e.hp++st.heap⟩)
 new:∀ r∈e.nw,cur.free kp r=true/\QD r e.hp=true
 key:∀ r,QD r e.hp=true->r∈e.tb\/r∈e.nw
def QdM (b:ES) (es:List EF):ES:=⟨Yt (fun _=>true) b.slots es,Yu (fun _=>true) b.heap es⟩
def QnO (P:Program) (E:Env) (kp:List Nat) (n:Nat) (ops:Array Oper) (ms:List Nat) (b:ES):List EF->Prop
 | []=>True
 | e::es=>QnO P E kp n ops ms b es/\(∀ o,ops[es.length]? = some o->EFok P E kp n ops (QdM b es) o e)/\Qb5 (ms.getD es.length 0) e es.length es=true
theorem Qii {m:Nat} {f:EF}:∀ {es:List EF},Qb5 m f es.length es=true -> ∀ k e,WQ k es=some e->Qku m k=true\/XQ e f=false
 | [],_,k,e,hk=>by cases hk
 | g::es,h,k,e,hk=>by
  simp only [Qxw,Qb5,Qxs,Qxr,Qxu] at h;unfold WQ at hk;split at hk
  ·next e1=>cases hk;subst e1;exact h.1
  ·exact Qii h.2 k e hk
theorem Qgr {ms:List Nat} {b:ES}:∀ {es:List EF},QnO P E kp n ops ms b es -> ∀ i,i < es.length->∃ e,WQ i es=some e/\(∀ o,ops[i]? = some o->EFok P E kp n ops (QdM b (XR i es)) o e) /\ ∀ k f,k < i->WQ k es=some f->Qku (ms.getD i 0) k=true\/XQ f e=false
 | [],_,i,h=>by simp at h
 | e::es,hg,i,h=>by
  obtain ⟨h1,h2,h3⟩:=hg;by_cases hi:i=es.length
  ·subst hi;refine ⟨e,by simp [WQ],?_,fun k f hk hn=>?_⟩
   ·have:XR es.length (e::es)=es:=by unfold XR;rw [if_pos (QxD _)];exact Qqi es
    rw [this];exact h2
   ·unfold WQ at hn;rw [if_neg (by omega)] at hn;exact Qii h3 k f hn
  ·simp only [Qxw] at h;obtain ⟨f,k1,k2,k3⟩:=Qgr h1 i (by omega);refine ⟨f,by unfold WQ;rw [if_neg hi];exact k1,?_,fun k g hk hn=>?_⟩
   ·have:XR i (e::es)=XR i es:=by rw [XR,if_pos (by omega)]
    rw [this];exact k2
   ·unfold WQ at hn;rw [if_neg (by omega)] at hn;exact k3 k g hk hn
theorem Qfe (b:List (Nat×EV)):∀ es:List EF,Yt (fun _=>false) b es=b
 | []=>rfl
 | e::es=>by unfold Yt;rw [if_neg (by simp)];exact Qfe b es
theorem Qff (b:List (Nat×EB)):∀ es:List EF,Yu (fun _=>false) b es=b
 | []=>rfl
 | e::es=>by unfold Yu;rw [if_neg (by simp)];exact Qff b es
theorem QnP (ops:Array Oper):Region.ready .any ops (VJ ops.size ops.size)=[]:=by
 unfold Region.ready;rw [List.filter_eq_nil_iff];intro i hi;have hi:=List.mem_range.1 hi
 have:(VJ ops.size ops.size).getD i true=true:=by
  unfold VJ;rw [Qxo];simp [hi]
 rw [this];simp
theorem QnQ {ms:List Nat} (h:Xj ops ms ops.size=true):Qbk ops ops.size=true:=by
 unfold Qbk;simp only [Qxs,List.all_eq_true,List.mem_range];refine ⟨fun i hi=>?_,fun i hi=>by simp [hi]⟩;have h1:=(JW h hi).1;have ho:ops[i]? = some ops[i]:=Array.getElem?_eq_getElem hi;rw [ho];simp only [Qxz,Qxx,QxC,Qxr,Qxu,decide_eq_true_eq];intro x hx
 cases hb:Region.binds .any (ops[i].after[x]) with
 | false=>exact .inl rfl
 | true =>
  refine .inr (h1 _ ?_);unfold QY;rw [ho];simp only [Qxz,Qxx,List.mem_map];exact ⟨_,List.mem_filter.2 ⟨Array.mem_def.1 (Array.getElem_mem hx),hb⟩,rfl⟩
theorem Qqj {ms:List Nat} {b:ES} {es:List EF} {id:Nat} {Q:Exit->Act->World->Prop} (hx:P.follows .mixedOrders=true) (hms:Xj ops ms ops.size=true) (hg:QnO P E kp n ops ms b es) (hlen:es.length=ops.size)
  (hk:To E kp n Q .normal (QdM b es).as):AW P E kp n (.region id ops true) Q b.as:=by
 intro a w hsat
 let S:(Nat->Bool)->ES:=fun L=>⟨Yt L b.slots es,Yu L b.heap es⟩
 let DC:(Nat->Bool)->Prop:=fun L=>∀ i,i < ops.size->L i=true -> ∀ j∈QY ops i,L j=true
 have lookS:∀ (X Y:ES),(∀ s,look EV.any X.slots s=look EV.any Y.slots s)->(∀ r,look EB.dead X.heap r=look EB.dead Y.heap r) -> ∀ a w,Sat E kp n Y.as a w->Sat E kp n X.as a w:=fun X Y h1 h2 a w h =>
  Sat.congr (fun s=>by
   show look AV.any (avs X.slots) s=look AV.any (avs Y.slots) s
   rw [Q8,Q8,h1]) (fun r=>by
   show look OB.dead (obs X.heap) r=look OB.dead (obs Y.heap) r
   rw [Q9,Q9,h2]) h
 have hfin:=QbV (P:=P) (ops:=ops) (Q:=Q) (m:=ops.size) (QnQ hms) (QxD _) (fun L a w=>Sat E kp n (S L).as a w/\DC L) ?step ?fin ops.size (Array.replicate ops.size false) a w.drew (by simp) (fun i _ hi=>by
   rw [Qxo,Qxp,if_pos hi];rfl) (fun i hi=>by
   rw [Qxo,Qxp] at hi;split at hi <;> simp at hi) (JG _ _ (QxD _)) ⟨?start,fun i hi hL=>by
   simp only [Qxo,Qxp] at hL
   rw [if_pos (by omega)] at hL;simp at hL⟩
 case start =>
  obtain ⟨φ,Pub,I,h0,hn,hsl⟩:=hsat;have h1:Sat E kp n b.as a w.drew:=⟨φ,Pub,I.drew,h0,hn,fun s=>QF XB _ _ (fun _ _=>rfl) (hsl s)⟩;refine lookS _ b (fun s=>?_) (fun r=>?_) _ _ h1
  ·have e:=Qfe b.slots es;show look EV.any (Yt _ b.slots es) s=_;rw [XS (L':=fun _=>false) (fun k f hkf _=>?_),e];have:=Ze hkf;simp only [Qxo,Qxp];rw [if_pos (by omega)];simp
  ·have e:=Qff b.heap es;show look EB.dead (Yu _ b.heap es) r=_;rw [XT (L':=fun _=>false) (fun k f hkf _=>?_),e];have:=Ze hkf;simp only [Qxo,Qxp];rw [if_pos (by omega)];simp
 case fin =>
  intro L a w hall ⟨hS,_⟩;rw [Nat.sub_self];refine ⟨QnP ops,hk a w (lookS _ (S L) (fun s=>?_) (fun r=>?_) _ _ hS)⟩
  ·exact XS (fun k f hkf _=>(hall k (by have:=Ze hkf;omega)).symm)
  ·exact XT (fun k f hkf _=>(hall k (by have:=Ze hkf;omega)).symm)
 case step =>
  intro L a w i o K hi ho hLi hd ⟨hS,hDC⟩ hK;obtain ⟨e,he,hok,hpr⟩:=Qgr hg i (by omega);have hok:=hok o ho
  have hdL:∀ j∈QY ops i,L j=true:=fun j hj=>by
   unfold QY at hj;rw [ho] at hj;simp only [Qxz,Qxx] at hj;rw [List.mem_map] at hj;obtain ⟨x,hx,rfl⟩:=hj;rw [List.mem_filter] at hx;obtain ⟨y,hy,hy2⟩:=Array.mem_iff_getElem.1 (Array.mem_def.2 hx.1);rw [QxC] at hd;have:=hd y hy;rw [hy2] at this;simp only [Qxr,Qxu] at this;rcases this with h5 | h5
   ·rw [hx.2] at h5;cases h5
   ·exact h5
  have hC:=Qmn hms hDC i hi hdL
  have early:∀ k f,k < i->WQ k es=some f->XQ f e=true->L k=true:=fun k f hki hkf hc=>by
   rcases hpr k f hki hkf with h5 | h5
   ·exact hC k h5
   ·rw [hc] at h5;cases h5
  have late:∀ k f,i < k->WQ k es=some f->XQ e f=true->L k=false:=fun k f hki hkf hc=>by
   cases hLk:L k with
   | false=>rfl
   | true =>
    have hkm:k < ops.size:=by have:=Ze hkf;omega
    obtain ⟨f',hf',_,hpr'⟩:=Qgr hg k (by omega);rw [hkf] at hf';cases hf';rcases hpr' i e hki he with h5 | h5
    ·have:=Qmn hms hDC k hkm (hDC k hkm hLk) i h5;rw [hLi] at this;cases this
    ·rw [hc] at h5;cases h5
  have uS:∀ s,(∀ f:EF,QD s f.sl=true->XQ f e=true)->(∀ f:EF,QD s f.sl=true->XQ e f=true)->look EV.any (S L).slots s=look EV.any (QdM b (XR i es)).slots s:=fun s h1 h2=>by
   show look EV.any (Yt L b.slots es) s=look EV.any (Yt (fun _=>true) b.slots (XR i es)) s;rw [<- (VX b.slots b.heap es).1];refine XS fun k f hkf hs=>?_;rcases Qxv k i with h5 | h5 | h5
   ·rw [early k f h5 hkf (h1 f hs)];simp [h5]
   ·subst h5;rw [hLi];simp
   ·rw [late k f h5 hkf (h2 f hs)];simp;omega
  have uH:∀ r,(∀ f:EF,QD r f.hp=true->XQ f e=true)->(∀ f:EF,QD r f.hp=true->XQ e f=true)->look EB.dead (S L).heap r=look EB.dead (QdM b (XR i es)).heap r:=fun r h1 h2=>by
   show look EB.dead (Yu L b.heap es) r=look EB.dead (Yu (fun _=>true) b.heap (XR i es)) r;rw [<- (VX b.slots b.heap es).2];refine XT fun k f hkf hs=>?_;rcases Qxv k i with h5 | h5 | h5
   ·rw [early k f h5 hkf (h1 f hs)];simp [h5]
   ·subst h5;rw [hLi];simp
   ·rw [late k f h5 hkf (h2 f hs)];simp;omega
  have hstep:=hok.step (S L) (fun s hs=>uS s (fun f hf=>?_) (fun f hf=>?_)) (fun r hr=>uH r (fun f hf=>?_) (fun f hf=>?_)) (fun r hr=>?_)
  ·refine hstep a w K Q hS (fun a' w' hs'=>hK a' w' ⟨lookS _ _ (fun s=>?_) (fun r=>?_) _ _ hs',fun x hx hLx y hy=>?_⟩)
   ·show look EV.any (Yt (fun j=>j == i || L j) b.slots es) s=look EV.any (e.sl++Yt L b.slots es) s;rw [Qv]
    cases hes:QD s e.sl with
    | true =>
     rw [if_pos rfl];refine Qie hes he (by simp) fun k f hik hkf hs=>?_
     have:=late k f hik hkf (by
      unfold XQ;rw [YG hes (by rw [hs];simp)];rfl)
     simp [this];omega
    | false =>
     rw [if_neg (by simp)];refine XS fun k f hkf hs=>?_;have:k≠i:=fun h5=>by subst h5;rw [he] at hkf;cases hkf;rw [hes] at hs;cases hs
     simp [this]
   ·show look EB.dead (Yu (fun j=>j == i || L j) b.heap es) r=look EB.dead (e.hp++Yu L b.heap es) r;rw [Qv]
    cases hes:QD r e.hp with
    | true =>
     rw [if_pos rfl];refine Qif hes he (by simp) fun k f hik hkf hs=>?_
     have:=late k f hik hkf (by
      unfold XQ;rw [YG (f:=fun r=>QO r f.tb || QD r f.hp) hes (by rw [hs];simp)];simp)
     simp [this];omega
    | false =>
     rw [if_neg (by simp)];refine XT fun k f hkf hs=>?_;have:k≠i:=fun h5=>by subst h5;rw [he] at hkf;cases hkf;rw [hes] at hs;cases hs
     simp [this]
   ·simp only [Qxr,beq_iff_eq] at hLx ⊢;rcases hLx with rfl | hLx
    ·exact .inr (hdL y hy)
    ·exact .inr (hDC x hx hLx y hy)
  ·unfold XQ;rw [YG hf (by rw [Zw.2 hs];rfl)];rfl
  ·unfold XQ;rw [YG (f:=fun s=>QO s e.rd) hf (Zw.2 hs)];simp
  ·unfold XQ;rw [YG (f:=fun r=>QO r e.tb || QD r e.hp) hf (by rw [Zw.2 hr];rfl)];simp
  ·unfold XQ;rw [YG (f:=fun r=>QO r e.tb) hf (Zw.2 hr)];simp
  ·obtain ⟨hfree,hkey⟩:=hok.new r hr;have hl:=uH r (fun f hf=>by unfold XQ;rw [YG (f:=fun r=>QO r e.tb || QD r e.hp) hf (by rw [hkey];simp)];simp) (fun f hf=>by unfold XQ;rw [YG (f:=fun r=>QO r f.tb || QD r f.hp) hkey (by rw [hf];simp)];simp);unfold ES.free at hfree ⊢;simp only [Qxs,Qxu] at hfree ⊢;obtain ⟨⟨⟨f1,f2⟩,f3⟩,f4⟩:=hfree;have e1:=(VX (i:=i) b.slots b.heap es).1;have e2:=(VX (i:=i) b.slots b.heap es).2;have f2:Xu r (Yu (fun k=>decide (k < i)) b.heap es)=false:=by rw [e2];exact f2
   have f3:YU r (Yt (fun k=>decide (k < i)) b.slots es)=false:=by rw [e1];exact f3
   obtain ⟨g2,g2'⟩:=V1 f2;obtain ⟨g3,g3'⟩:=V0 f3
   have hno:∀ k f,WQ k es=some f->L k=true->Xu r f.hp=false/\YU r f.sl=false:=fun k f hkf hLk=>by
    rcases Qxv k i with h5 | h5 | h5
    ·exact ⟨g2' k f hkf (by simp [h5]),g3' k f hkf (by simp [h5])⟩
    ·subst h5;rw [hLi] at hLk;cases hLk
    ·have hc:XQ e f=false:=by
      cases hc:XQ e f with
      | false=>rfl
      | true=>have:=late k f h5 hkf hc;rw [hLk] at this;cases this
     unfold XQ at hc;simp only [QxA] at hc;have h6:=hc.2.2.2.2;constructor
     ·cases hq:Xu r f.hp with
      | false=>rfl
      | true =>
       have:=Qgq (f:=fun r=>YU r f.sl || Xu r f.hp) hr (by rw [hq];simp);rw [this] at h6;cases h6
     ·cases hq:YU r f.sl with
      | false=>rfl
      | true =>
       have:=Qgq (f:=fun r=>YU r f.sl || Xu r f.hp) hr (by rw [hq];simp);rw [this] at h6;cases h6
   refine ⟨⟨⟨?_,Qih g2 fun k f hkf hLk=>(hno k f hkf hLk).1⟩,Qig g3 fun k f hkf hLk=>(hno k f hkf hLk).2⟩,f4⟩;rw [hl];exact f1
 rw [Nat.sub_self,Nat.add_zero] at hfin;exact wp_region_any hx hfin
end
end
section
open Go.RowKit
mutual
def EV.nms:EV->List Nat->List Nat
 | .agg l,k=>QtX l k
 | .tup l,k=>QtX l k
 | .own q _,k=>q::k
 | .osl q _,k=>q::k
 | .fn _ _,k=>k
 | .rp _,k=>k
 | .mref q,k=>q::k
 | .oss q _ _ _,k=>q::k
 | .po q _ _ _,k=>q::k
 | .cnd _ x,k=>EV.nms x k
 | .v _,k=>k
 | .u8 _,k=>k
 | .u32 _,k=>k
 | .u64 _,k=>k
 | .az _ _,k=>k
 | .bs _,k=>k
 | .lz _ _ _,k=>k
 | .pp _ _,k=>k
 | .pb _ _,k=>k
 | .pz _ _ _ _ _,k=>k
 | .raw _,k=>k
 | .sl _ _,k=>k
 | .any,k=>k
def QtX:List EV->List Nat->List Nat
 | [],k=>k
 | x::xs,k=>EV.nms x (QtX xs k)
end
def nmsS:List (Nat×EV)->List Nat
 | []=>[]
 | p::l=>p.2.nms (nmsS l)
def EB.nms:EB->List Nat->List Nat
 | .box cells _,k=>QtX cells k
 | .it m _ _ _,k=>m::k
 | .ra _ _ _ _ ns,k=>ns++k
 | _,k=>k
def Qqk (hp:List (Nat×EB)):Nat->List Nat->List Nat->List Nat
 | 0,_,seen=>seen
 | _+1,[],seen=>seen
 | f+1,q::todo,seen=>bif QO q seen then Qqk hp f todo seen else Qqk hp f ((ob_ hp q).nms todo) (q::seen)
def Qql:List Nat->(List Nat->Prop)->Prop
 | [],k=>k []
 | x::l,k=>Qql l (fun m=>k (x::m))
theorem Qgs:∀ (l:List Nat) (k:List Nat->Prop),Qql l k=k l
 | [],k=>rfl
 | x::l,k=>Qgs l _
def pkH (hp:List (Nat×EB)):List Nat->List (Nat×EB)
 | []=>[]
 | r::l=>(r,look .dead hp r)::pkH hp l
def needB:Op->Bool
 | .load _ _=>true
 | .store _ _ _=>true
 | .slice _ _ _ _ _=>true
 | .convert _ _ _=>true
 | .call _=>true
 | .lookup _ _ _ _=>true
 | .mapUpdate _ _ _ _=>true
 | .range _ _=>true
 | _=>false
def Qqm (ops:Array Oper) (o:Oper) (l:List Nat):List Nat :=
 match o.guard with
 | some (j,_)=>match (ops[j]?).bind (·.dst) with
  | some s=>s::l
  | none=>l
 | none=>l
def QtY:Op->Bool
 | .call c=>match c.callee with
  | .value _=>true
  | _=>false
 | .makeFunc _ _ _=>true
 | .entry _=>true
 | _=>false
def tbOf (sl:List (Nat×EV)) (hp:List (Nat×EB)) (rd:List Nat) (o:Oper):List Nat :=
 match QtY o.op with
 | true=>Qqk hp 60 (nmsS (pkV sl rd)) []
 | false=>bif needB o.op then nmsS (pkV sl rd) else []
def nwK (bs:List (Nat×EB)):List (Nat×EB)->(List Nat->Prop)->Prop
 | [],k=>k []
 | p::l,k=>bif (ob_ bs p.1).alive then nwK bs l k else nwK bs l (fun m=>k (p.1::m))
def nwL (bs:List (Nat×EB)):List (Nat×EB)->List Nat
 | []=>[]
 | p::l=>bif (ob_ bs p.1).alive then nwL bs l else p.1::nwL bs l
theorem Qkv (bs:List (Nat×EB)):∀ (l:List (Nat×EB)) (k:List Nat->Prop),nwK bs l k=k (nwL bs l)
 | [],k=>rfl
 | p::l,k=>by
  unfold nwK nwL
  cases (ob_ bs p.1).alive with
  | true=>exact Qkv bs l _
  | false=>exact Qkv bs l _
def frN (st:ES) (kp:List Nat):List Nat->Bool
 | []=>true
 | r::l=>st.free kp r && frN st kp l
def goD (kp:List Nat) (m i:Nat) (rd tb:List Nat) (es:List EF) (sl:List (Nat×EV)) (hp:List (Nat×EB)) (K:List EF->ES->Prop):Option RS->Prop
 | some ⟨C,rs,rh⟩=>QeK (fun rs=>QeK (fun rh=>nwK (pkH hp tb) rh (fun nw =>
   bif frN ⟨sl,hp⟩ kp nw && Qb5 m ⟨rs,rh,rd,tb,nw⟩ i es then obA C (QeK (fun s=>QeK (fun h=>K (⟨rs,rh,rd,tb,nw⟩::es) ⟨s,h⟩) hp rh) sl rs) else False)) [] rh) [] rs
 | none=>False
section
variable (P:Program) (kp:List Nat) (n:Nat) (tab:TT) (H:Hi) (ops:Array Oper)
def Qcn:List Oper->List Nat->Nat->List EF->ES->(ES->Prop)->Prop
 | [],_,_,_,st,K=>K st
 | _::_,[],_,_,_,_=>False
 | o::os,m::ms,i,es,⟨sl,hp⟩,K=>bif YF o.dst n then
   Qql (Qqm ops o (QK o.op.operands.toList)) (fun rd=>Qql (tbOf sl hp rd o) (fun tb =>
   match Qe9 (pkV sl rd) o with
   | some (f,args,ce)=>match o.guard with
    | none=>∃ hin a5s hout res,Cf P f hin a5s hout res/\goD kp m i rd tb es sl hp (fun es' st'=>Qcn os ms (i+1) es' st' K) (Qb3 H.bo (pkV sl rd) (pkH hp tb) o.dst args (ceL ce) hin a5s hout res)
    | some (j,want)=>match ce,o.dst,ZG ops (pkV sl rd) j want with
     | none,some d,some c=>∃ a5s res,(match Qfa (QO d H.bo) (Wb (pkV (pkV sl rd) (QK args))) (pkH hp tb) args a5s res with
      | some C=>((c=true->Cf P f [] a5s [] res)/\obA (Qcm (c=true) (Wc (pkV (pkV sl rd) (QK o.op.operands.toList))++C)) (goD kp m i rd tb es sl hp (fun es' st'=>Qcn os ms (i+1) es' st' K) (some ⟨[],[(d,.cnd c res)],[]⟩)))
      | none=>False)
     | _,_,_=>False
   | none=>match Qh3 tab (pkV sl rd) o with
    | some _=>False
    | none=>goD kp m i rd tb es sl hp (fun es' st'=>Qcn os ms (i+1) es' st' K) (QaE tab H ops (pkV sl rd) (pkH hp tb) o))) else False
end
theorem Vo {vs:List (Nat×EV)} {t:Nat}:∀ {l:List Nat},t∈l->look EV.any (pkV vs l) t=look EV.any vs t
 | s::l,h=>by
  simp only [pkV,Qb];split
  ·next e=>subst e;rfl
  ·next e =>
   rcases Qxt.1 h with h | h
   ·exact absurd h.symm e
   ·exact Vo h
theorem QaG {vs:List (Nat×EV)} {t:Nat}:∀ {l:List Nat},t ∉ l->look EV.any (pkV vs l) t=.any
 | [],_=>rfl
 | s::l,h=>by
  simp only [pkV,Qb];simp only [Qxt,not_or] at h;rw [if_neg (fun e=>h.1 e.symm)];exact QaG h.2
theorem QaH {hp:List (Nat×EB)} {t:Nat}:∀ {l:List Nat},t∈l->look EB.dead (pkH hp l) t=look EB.dead hp t
 | s::l,h=>by
  simp only [pkH,Qb];split
  ·next e=>subst e;rfl
  ·next e =>
   rcases Qxt.1 h with h | h
   ·exact absurd h.symm e
   ·exact QaH h
theorem Vp {hp:List (Nat×EB)} {t:Nat}:∀ {l:List Nat},t ∉ l->look EB.dead (pkH hp l) t=.dead
 | [],_=>rfl
 | s::l,h=>by
  simp only [pkH,Qb];simp only [Qxt,not_or] at h;rw [if_neg (fun e=>h.1 e.symm)];exact Vp h.2
theorem Qwl {cur st:ES} {rd tb:List Nat} (h1:∀ s∈rd,look EV.any st.slots s=look EV.any cur.slots s) (h2:∀ r∈tb,look EB.dead st.heap r=look EB.dead cur.heap r):Sub (pkV cur.slots rd) (pkH cur.heap tb) st:=by
 refine ⟨fun x=>?_,fun r=>?_⟩
 ·cases x with
  | tmp t =>
   show look EV.any (pkV cur.slots rd) t=.any\/look EV.any st.slots t=look EV.any (pkV cur.slots rd) t;by_cases h:t∈rd
   ·exact .inr (by rw [Vo h,h1 t h])
   ·exact .inl (QaG h)
  | const c=>exact .inr rfl
  | func f=>exact .inr rfl
  | global g=>exact .inl rfl
 ·show look EB.dead (pkH cur.heap tb) r=.dead\/look EB.dead st.heap r=look EB.dead (pkH cur.heap tb) r;by_cases h:r∈tb
  ·exact .inr (by rw [QaH h,h2 r h])
  ·exact .inl (Vp h)
theorem Qwm {ops:Array Oper} {o:Oper} {l:List Nat} {s:Nat} (h:s∈l):s∈Qqm ops o l:=by
 unfold Qqm;split
 ·split
  ·exact QxB _ h
  ·exact h
 ·exact h
theorem Qkw {bs:List (Nat×EB)} {r:Nat}:∀ {l:List (Nat×EB)},r∈nwL bs l->QD r l=true/\(ob_ bs r).alive=false
 | [],h=>by cases h
 | (k,x)::l,h=>by
  unfold nwL at h
  cases ha:(ob_ bs k).alive with
  | true =>
   rw [ha] at h;have:=Qkw (bs:=bs) (l:=l) h;exact ⟨by simp [QD,this.1],this.2⟩
  | false =>
   rw [ha] at h;simp only [cond_false,Qxt] at h;rcases h with rfl | h
   ·exact ⟨by simp [QD],ha⟩
   ·have:=Qkw h;exact ⟨by simp [QD,this.1],this.2⟩
theorem Qgt {bs:List (Nat×EB)} {r:Nat}:∀ {l:List (Nat×EB)},QD r l=true->(ob_ bs r).alive=true\/r∈nwL bs l
 | [],h=>by cases h
 | (k,x)::l,h=>by
  simp only [QD,Qxr] at h;unfold nwL;rcases h with h | h
  ·have:=Qc h;subst this
   cases ha:(ob_ bs k).alive with
   | true=>exact .inl rfl
   | false=>exact .inr (by simp)
  ·rcases Qgt (bs:=bs) h with h1 | h1
   ·exact .inl h1
   ·refine .inr ?_
    cases ha:(ob_ bs k).alive with
    | true=>exact h1
    | false=>exact QxB _ h1
theorem Qqn {st:ES} {kp:List Nat}:∀ {l:List Nat},frN st kp l=true -> ∀ r∈l,st.free kp r=true
 | [],_,r,h=>by cases h
 | q::l,h,r,hr=>by
  simp only [frN,Qxs] at h;rcases Qxt.1 hr with e | e
  ·rw [e];exact h.1
  ·exact Qqn h.2 r e
theorem Qfg {α:Type} {p:Nat×α}:∀ {l:List (Nat×α)},p∈l->QD p.1 l=true
 | q::l,h=>by
  simp only [QD,Qxr];rcases Qxt.1 h with e | e
  ·subst e;exact .inl (Nat.beq_refl _)
  ·exact .inr (Qfg e)
section
variable {P:Program} {E:Env} {kp:List Nat} {n:Nat} {ops:Array Oper} {tab:TT} {H:Hi}
theorem Qwn {m i:Nat} {rd tb:List Nat} {es:List EF} {st:ES} {K:List EF->ES->Prop} {R:Option RS} (h:goD kp m i rd tb es st.slots st.heap K R) :
  ∃ R' nw,R=some R'/\(∀ c∈R'.C,c)/\(∀ r∈nw,st.free kp r=true/\QD r R'.hp=true)/\(∀ r,QD r R'.hp=true->r∈tb\/r∈nw)/\(∀ p∈R'.hp,(ob_ (pkH st.heap tb) p.1).alive=true\/p.1∈nw) /\
   Qb5 m ⟨R'.sl,R'.hp,rd,tb,nw⟩ i es=true/\K (⟨R'.sl,R'.hp,rd,tb,nw⟩::es) ⟨R'.sl++st.slots,R'.hp++st.heap⟩:=by
 unfold goD at h;split at h
 ·next C rs rh =>
  rw [ZU,List.append_nil,ZU,List.append_nil,Qkv] at h
  cases hb:frN ⟨st.slots,st.heap⟩ kp (nwL (pkH st.heap tb) rh) && Qb5 m ⟨rs,rh,rd,tb,nwL (pkH st.heap tb) rh⟩ i es with
  | false=>rw [hb] at h;exact h.elim
  | true =>
   rw [hb] at h;obtain ⟨h1,h2⟩:=Vl h;rw [ZU,ZU] at h2;rw [Qxs] at hb
   have hal:∀ r,(ob_ (pkH st.heap tb) r).alive=true->r∈tb:=fun r hr=>by
    refine Classical.byContradiction fun hn=>?_;have:ob_ (pkH st.heap tb) r=.dead:=Vp hn;rw [this] at hr;cases hr
   refine ⟨⟨C,rs,rh⟩,nwL (pkH st.heap tb) rh,rfl,h1,fun r hr=>⟨Qqn hb.1 r hr,(Qkw hr).1⟩,fun r hr=>?_,fun p hp=>Qgt (Qfg hp),hb.2,h2⟩;rcases Qgt (bs:=pkH st.heap tb) hr with h3 | h3
   ·exact .inl (hal r h3)
   ·exact .inr h3
 ·exact h.elim
theorem Qb6 {q:Operand} {a:Array Operand} {T:Array TypeId} {s:Nat} (h:s∈QK (q::a.toList)):s∈QK (Op.call { callee:=.value q,args:=a,argTypes:=T }).operands.toList:=by
 have e:(Op.call { callee:=.value q,args:=a,argTypes:=T }).operands.toList=q::a.toList:=by simp [Op.operands,Call.operands]
 rw [e];exact h
theorem Qfh {α:Type} {l:List α} {i:Nat} {x:α} {r:List α} (h:l.drop i=x::r):l[i]? = some x/\l.drop (i+1)=r:=by
 have h1:(l.drop i)[0]? = some x:=by rw [h];rfl
 have h2:(l.drop i).drop 1=r:=by rw [h];rfl
 rw [List.getElem?_drop] at h1;rw [List.drop_drop] at h2;exact ⟨by simpa using h1,h2⟩
theorem Qmo (hP:tab.ok P) {mA:List Nat} {b:ES}:∀ (os:List Oper) (ms:List Nat) (i:Nat) (es:List EF) (st:ES) (K:ES->Prop),Qcn P kp n tab H ops os ms i es st K ->
  ops.toList.drop i=os->mA.drop i=ms->i<=ops.size->es.length=i->QnO P E kp n ops mA b es->st=QdM b es->∃ es',QnO P E kp n ops mA b es'/\es'.length=ops.size/\K (QdM b es')
 | [],ms,i,es,st,K,h,ho,_,hi,hl,hg,hst=>by
  unfold Qcn at h;subst hst;refine ⟨es,hg,?_,h⟩;have h1:=List.drop_eq_nil_iff.1 ho;simp at h1;omega
 | o::os,[],i,es,st,K,h,_,_,_,_,_,_=>by unfold Qcn at h;exact h.elim
 | o::os,m::ms,i,es,⟨sl,hp⟩,K,h,ho,hm,hi,hl,hg,hst=>by
  unfold Qcn at h
  let st:ES:=⟨sl,hp⟩
  have hst':QdM b es=st:=hst.symm;obtain ⟨ho1,ho2⟩:=Qfh ho;obtain ⟨hm1,hm2⟩:=Qfh hm
  have hi1:i < ops.size:=by
   have:=(List.getElem?_eq_some_iff.1 ho1).1;simpa using this
  have hoi:ops[i]? = some o:=by simpa using ho1
  have hmi:mA.getD i 0=m:=by rw [List.getD_eq_getElem?_getD,hm1];rfl
  cases hds:YF o.dst n with
  | false=>rw [hds] at h;exact h.elim
  | true =>
   rw [hds] at h;simp only [cond_true] at h;rw [Qgs,Qgs] at h;generalize hrd:Qqm ops o (QK o.op.operands.toList)=rd at h;generalize tbOf sl hp rd o=tb at h;have hmem:∀ s∈QK o.op.operands.toList,s∈rd:=fun s hs=>by rw [<- hrd];exact Qwm hs
   have more:∀ {R:Option RS},goD kp m i rd tb es sl hp (fun es' st'=>Qcn P kp n tab H ops os ms (i+1) es' st' K) R ->
     (∀ R',R=some R' -> ∀ st2:ES,Sub (pkV sl rd) (pkH hp tb) st2->(∀ s∈QK o.op.operands.toList,look EV.any (pkV sl rd) s=look EV.any st2.slots s)->(∀ c∈R'.C,c)->(∀ p∈R'.hp,(ob_ (pkH hp tb) p.1).alive=true\/st2.free kp p.1=true)->Qd P E kp n ops o st2.as (R'.app st2).as) ->
     ∃ es',QnO P E kp n ops mA b es'/\es'.length=ops.size/\K (QdM b es'):=fun {R} hgo hstep=>by
    obtain ⟨R',nw,e1,hC,hnw,hkey,hal,hpr,hk⟩:=Qwn (st:=st) hgo;refine Qmo hP os ms (i+1) _ _ K hk ho2 hm2 hi1 (by simp [hl]) ⟨hg,fun o' ho'=>?_,by rw [hl,hmi];exact hpr⟩ ?_
    ·rw [hl,hoi] at ho';cases ho';rw [hst'];refine ⟨fun st2 h1 h2 h3=>?_,hnw,hkey⟩;refine hstep R' e1 st2 (Qwl h1 h2) (fun s hs=>?_) hC (fun p hp'=>?_)
     ·rw [Vo (hmem s hs)];exact (h1 s (hmem s hs)).symm
     ·rcases hal p hp' with h4 | h4
      ·exact .inl h4
      ·exact .inr (h3 _ h4)
    ·show (⟨R'.sl++st.slots,R'.hp++st.heap⟩:ES)=⟨R'.sl++(QdM b es).slots,R'.hp++(QdM b es).heap⟩;rw [hst']
   split at h
   ·next f args ce hce =>
    rcases Qh8 hce with ⟨rfl,hc⟩ | ⟨rfl,hc⟩ | ⟨l,rfl,hc⟩
    ·obtain ⟨a,T,hop,ha⟩:=Qfc hc;obtain ⟨dst,op,ty,ps,af,gd⟩:=o;simp only at hop h hds;subst hop ha;split at h
     ·obtain ⟨hin,a5s,hout,res,hev,h⟩:=h;exact more h fun R' e1 st2 S hv hC hf=>Qib S hev e1 hC hf (XP hds)
     ·next j want =>
     split at h
     ·next d c _ hgb =>
      obtain ⟨a5s,res,h⟩:=h;split at h
      ·next C hfit =>
       obtain ⟨h1,h2⟩:=h;obtain ⟨h3,h2⟩:=Vl h2
       exact more h2 fun R' e1 st2 S hv hC hf=>by
        cases e1;exact Jl (q:=.func f) S (.inl rfl) (fun s hs=>hv s (Qb6 hs)) hgb hds hfit h1 h3
      ·exact h.elim
     ·exact h.elim
    ·obtain ⟨t,a,T,j',w',hop,hgd,ha,hq⟩:=Qh9 hc;obtain ⟨dst,op,ty,ps,af,gd⟩:=o;simp only at hop h hds hgd;subst hop ha hgd;split at h
     ·next hgn=>cases hgn
     ·next j want hgn =>
     cases hgn;split at h
     ·next d c _ hgb =>
      obtain ⟨a5s,res,h⟩:=h;split at h
      ·next C hfit =>
       obtain ⟨h1,h2⟩:=h;obtain ⟨h3,h2⟩:=Vl h2
       exact more h2 fun R' e1 st2 S hv hC hf=>by
        cases e1;exact Jl (q:=.tmp t) S (.inr ⟨t,rfl,hq⟩) (fun s hs=>hv s (Qb6 hs)) hgb hds hfit h1 h3
      ·exact h.elim
     ·exact h.elim
    ·obtain ⟨t,a,T,hop,ha,hl,hs⟩:=QhX hc;obtain ⟨dst,op,ty,ps,af,gd⟩:=o;simp only at hop h hds;subst hop ha;split at h
     ·obtain ⟨hin,a5s,hout,res,hev,h⟩:=h;exact more h fun R' e1 st2 S hv hC hf=>Qfd S hev hl hs e1 hC hf (XP hds)
     ·exact h.elim
   ·split at h
    ·exact h.elim
    ·exact more h fun R' e1 st2 S hv hC hf=>Qh7 S hv hP e1 hC hf hds
def DD (P:Program) (kp:List Nat) (n:Nat) (tab:TT) (H:Hi):Nat->Array Oper->ES->(ES->Prop)->Prop :=
 fun _ ops st K=>∃ ms:List Nat,Xj ops ms ops.size=true/\Qcn P kp n tab H ops ops.toList ms 0 [] st K
theorem DD_ok (hP:tab.ok P) (hx:P.follows .mixedOrders=true):DOk P kp n (DD P kp n tab H):=by
 intro E id ops st K Q ⟨ms,h1,h2⟩ hK;obtain ⟨es,g1,g2,g3⟩:=Qmo (E:=E) (mA:=ms) (b:=st) hP ops.toList ms 0 [] st K h2 rfl rfl (Nat.zero_le _) rfl trivial rfl;exact Qqj hx h1 g1 g2 (hK _ g3)
end
end
section
open Go.RowKit
def obR (C:List Prop) (K:Prop):Prop:=Qxy (motive:=fun _=>Prop) K (fun c _ ih=>Ob c ih) C
theorem JX (K:Prop):∀ C:List Prop,obR C K=obA C K
 | []=>rfl
 | c::cs=>congrArg (Ob c) (JX K cs)
def QdN {α:Type} (k:List α->Prop) (m:List α) (l:List α):Prop:=Qxy (motive:=fun _=>(List α->Prop)->Prop) (fun k=>k m) (fun x _ ih k=>ih (fun m'=>k (x::m'))) l k
theorem QtZ {α:Type} (m:List α):∀ (l:List α) (k:List α->Prop),QdN k m l=QeK k m l
 | [],k=>rfl
 | x::l,k=>QtZ m l (fun m'=>k (x::m'))
theorem QaI {α:Type} (m:List α):∀ (l:List α) (k:List α->Prop),QdN k m l=k (l++m)
 | [],k=>rfl
 | x::l,k=>QaI m l (fun m'=>k (x::m'))
def nrmR (l:List Nat) (k:List Nat->Prop):Prop:=Qxy (motive:=fun _=>(List Nat->Prop)->Prop) (fun k=>k []) (fun x _ ih k=>ih (fun m=>k (x::m))) l k
theorem Qmp:∀ (l:List Nat) (k:List Nat->Prop),nrmR l k=Qql l k
 | [],k=>rfl
 | x::l,k=>Qmp l (fun m=>k (x::m))
def nwR (bs:List (Nat×EB)) (l:List (Nat×EB)) (k:List Nat->Prop):Prop:=Qxy (motive:=fun _=>(List Nat->Prop)->Prop) (fun k=>k []) (fun p _ ih k=>bif (ob_ bs p.1).alive then ih k else ih (fun m=>k (p.1::m))) l k
theorem Qkx (bs:List (Nat×EB)):∀ (l:List (Nat×EB)) (k:List Nat->Prop),nwR bs l k=nwK bs l k
 | [],k=>rfl
 | p::l,k=>by
  show (bif (ob_ bs p.1).alive then nwR bs l k else nwR bs l (fun m=>k (p.1::m)))=(bif (ob_ bs p.1).alive then nwK bs l k else nwK bs l (fun m=>k (p.1::m)));rw [Qkx,Qkx]
def Qqo (kp:List Nat) (sl:List (Nat×EV)) (hp:List (Nat×EB)) (K:ES->Prop):Option RS->Prop
 | some ⟨C,rs,rh⟩=>bif QnL hp ⟨sl,hp⟩ kp rh then obR C (QdN (fun s=>QdN (fun h=>K ⟨s,h⟩) hp rh) sl rs) else False
 | none=>False
theorem Qt0 {kp:List Nat} {sl:List (Nat×EV)} {hp:List (Nat×EB)} {K:ES->Prop} (R:Option RS):Qqo kp sl hp K R=goR kp sl hp K R:=by
 cases R with
 | none=>rfl
 | some R=>simp only [Qqo,goR,JX,ZU,QaI]
def Qqp (kp:List Nat) (m i:Nat) (rd tb:List Nat) (es:List EF) (sl:List (Nat×EV)) (hp:List (Nat×EB)) (K:List EF->ES->Prop):Option RS->Prop
 | some ⟨C,rs,rh⟩=>QdN (fun rs=>QdN (fun rh=>nwR (pkH hp tb) rh (fun nw =>
   bif frN ⟨sl,hp⟩ kp nw && Qb5 m ⟨rs,rh,rd,tb,nw⟩ i es then obR C (QdN (fun s=>QdN (fun h=>K (⟨rs,rh,rd,tb,nw⟩::es) ⟨s,h⟩) hp rh) sl rs) else False)) [] rh) [] rs
 | none=>False
theorem Qt1 {kp:List Nat} {m i:Nat} {rd tb:List Nat} {es:List EF} {sl:List (Nat×EV)} {hp:List (Nat×EB)} {K:List EF->ES->Prop} (R:Option RS):Qqp kp m i rd tb es sl hp K R=goD kp m i rd tb es sl hp K R:=by
 cases R with
 | none=>rfl
 | some R=>simp only [Qqp,goD,JX,ZU,QaI,Qkx]
section
variable (P:Program) (kp:List Nat) (n:Nat) (tab:TT) (H:Hi) (ops:Array Oper)
def Qqq (o:Oper) (next:ES->Prop):ES->Prop
 | ⟨sl,hp⟩=>bif YF o.dst n then (match Qe9 sl o with
  | some (f,args,ce)=>match o.guard with
   | none=>∃ hin a5s hout res,Cf P f hin a5s hout res/\Qqo kp sl hp next (Qb3 H.bo sl hp o.dst args (ceL ce) hin a5s hout res)
   | some (j,want)=>match ce,o.dst,ZG ops sl j want with
    | none,some d,some c=>∃ a5s res,(match Qfa (QO d H.bo) (Wb (pkV sl (QK args))) hp args a5s res with
     | some C=>((c=true->Cf P f [] a5s [] res)/\obR (Qcm (c=true) (Wc (pkV sl (QK o.op.operands.toList))++C)) (next ⟨(d,.cnd c res)::sl,hp⟩))
     | none=>False)
    | _,_,_=>False
  | none=>match Qme sl hp o with
   | some (d,r,q,since,s,last,es)=>Ob (since=es.length/\last=es.length) ((∀ i:Nat,i < es.length->¬ i∈s->next ⟨(d,.tup [.b true,.any,.any])::sl,(r,.it q since (i::s) last)::hp⟩)/\((∀ i:Nat,i < es.length->i∈s)->next ⟨(d,.tup [.b false])::sl,hp⟩))
   | none=>match Qh3 tab sl o with
   | some (d,m)=>∀ g:Bool,(g=true->m=0)->next ⟨(d,.b g)::sl,hp⟩
   | none=>match o.dst with
    | some d=>bif QO d H.man then (∃ st':ES,(∀ E,Qd P E kp n ops o (ES.as ⟨sl,hp⟩) st'.as)/\next st') else Qqo kp sl hp next (QaE tab H ops sl hp o)
    | none=>Qqo kp sl hp next (QaE tab H ops sl hp o)) else False
def Qmq (os:List Oper) (st:ES) (K:ES->Prop):Prop:=Qxy (motive:=fun _=>ES->Prop) K (fun o _ ih=>Qqq P kp n tab H ops o ih) os st
theorem Qij (K:ES->Prop):∀ (os:List Oper) (st:ES),Qmq P kp n tab H ops os st K=QaF P kp n tab H ops os st K
 | [],st=>rfl
 | o::os,⟨sl,hp⟩=>by
  have e:(fun st'=>Qmq P kp n tab H ops os st' K)=fun st'=>QaF P kp n tab H ops os st' K:=funext fun st'=>Qij K os st';show Qqq P kp n tab H ops o (fun st'=>Qmq P kp n tab H ops os st' K) ⟨sl,hp⟩=_;rw [e];simp only [Qqq,Qt0,JX];rfl
def Qqr (o:Oper) (next:List Nat->Nat->List EF->ES->Prop):List Nat->Nat->List EF->ES->Prop
 | [],_,_,_=>False
 | m::ms,i,es,⟨sl,hp⟩=>bif YF o.dst n then
   nrmR (Qqm ops o (QK o.op.operands.toList)) (fun rd=>nrmR (tbOf sl hp rd o) (fun tb =>
   match Qe9 (pkV sl rd) o with
   | some (f,args,ce)=>match o.guard with
    | none=>∃ hin a5s hout res,Cf P f hin a5s hout res/\Qqp kp m i rd tb es sl hp (next ms (i+1)) (Qb3 H.bo (pkV sl rd) (pkH hp tb) o.dst args (ceL ce) hin a5s hout res)
    | some (j,want)=>match ce,o.dst,ZG ops (pkV sl rd) j want with
     | none,some d,some c=>∃ a5s res,(match Qfa (QO d H.bo) (Wb (pkV (pkV sl rd) (QK args))) (pkH hp tb) args a5s res with
      | some C=>((c=true->Cf P f [] a5s [] res)/\obR (Qcm (c=true) (Wc (pkV (pkV sl rd) (QK o.op.operands.toList))++C)) (Qqp kp m i rd tb es sl hp (next ms (i+1)) (some ⟨[],[(d,.cnd c res)],[]⟩)))
      | none=>False)
     | _,_,_=>False
   | none=>match Qh3 tab (pkV sl rd) o with
    | some _=>False
    | none=>Qqp kp m i rd tb es sl hp (next ms (i+1)) (QaE tab H ops (pkV sl rd) (pkH hp tb) o))) else False
def Qmr (os:List Oper) (ms:List Nat) (i:Nat) (es:List EF) (st:ES) (K:ES->Prop):Prop :=
 Qxy (motive:=fun _=>List Nat->Nat->List EF->ES->Prop) (fun _ _ _ st=>K st) (fun o _ ih=>Qqr P kp n tab H ops o ih) os ms i es st
theorem Qik (K:ES->Prop):∀ (os:List Oper) (ms:List Nat) (i:Nat) (es:List EF) (st:ES),Qmr P kp n tab H ops os ms i es st K=Qcn P kp n tab H ops os ms i es st K
 | [],ms,i,es,st=>by unfold Qcn;rfl
 | o::os,[],i,es,st=>rfl
 | o::os,m::ms,i,es,⟨sl,hp⟩=>by
  have e:(fun ms i es st'=>Qmr P kp n tab H ops os ms i es st' K)=fun ms i es st'=>Qcn P kp n tab H ops os ms i es st' K:=by
   funext ms i es st';exact Qik K os ms i es st'
  show Qqr P kp n tab H ops o (fun ms i es st'=>Qmr P kp n tab H ops os ms i es st' K) (m::ms) i es ⟨sl,hp⟩=_;rw [e];simp only [Qqr,Qt1,JX,Qmp];rfl
end
def DR (P:Program) (kp:List Nat) (n:Nat) (tab:TT) (H:Hi):Nat->Array Oper->ES->(ES->Prop)->Prop :=
 fun _ ops st K=>∃ ms:List Nat,Xj ops ms ops.size=true/\Qmr P kp n tab H ops ops.toList ms 0 [] st K
theorem DR_eq {P:Program} {kp:List Nat} {n:Nat} {tab:TT} {H:Hi}:DR P kp n tab H=DD P kp n tab H:=by
 funext i ops st K
 simp only [DR,DD,Qik]
theorem DR_ok {P:Program} {kp:List Nat} {n:Nat} {tab:TT} {H:Hi} (hP:tab.ok P) (hx:P.follows .mixedOrders=true):DOk P kp n (DR P kp n tab H):=by rw [DR_eq];exact DD_ok hP hx
def QnR (kp:List Nat) (st st':ES):Prop:=match wkF kp st st' with
 | some C=>obR C True
 | none=>False
theorem Qgu (kp:List Nat) (st st':ES):QnR kp st st'=WkG kp st st':=by
 simp only [QnR,WkG,JX] <;> rfl
section
variable (P:Program) (kp:List Nat) (n:Nat) (tab:TT) (H:Hi) (D:Nat->Array Oper->ES->(ES->Prop)->Prop)
def seqK (nx:ES->Prop) (K:Exit->ES->Prop):Exit->ES->Prop:=fun e st'=>match e with
 | .normal=>nx st'
 | e=>K e st'
def blkK (id:Nat) (K:Exit->ES->Prop):Exit->ES->Prop:=fun e st'=>match e with
 | .exit i=>bif Nat.beq i id then K .normal st' else K (.exit i) st'
 | e=>K e st'
def Qt2 (kp:List Nat) {α:Type} (I:α->ES) (ok:α->Prop) (μ:α->Nat) (x:α) (K:Exit->ES->Prop):Exit->ES->Prop:=fun e st'=>match e with
 | .normal=>∃ y,ok y/\μ y < μ x/\QnR kp st' (I y)
 | e=>K e st'
def Qt3 (id:Nat) (ops:Array Oper) (draw:Bool) (K:Exit->ES->Prop) (st:ES):Prop:=match draw with
  | false=>Qmq P kp n tab H ops ops.toList st (K .normal)
  | true=>D id ops st (K .normal)
def regR (id:Nat) (ops:Array Oper) (draw:Bool) (K:Exit->ES->Prop) (st:ES):Prop :=
 bif QO id H.cu then (∃ st':ES,QnR kp st st'/\Qt3 P kp n tab H D id ops draw K st') else Qt3 P kp n tab H D id ops draw K st
def cndR (c:Operand) (a b:ES->Prop) (st:ES):Prop:=match Ql st.slots c with
  | .v (.bool g)=>(g=true->a st)/\(g=false->b st)
  | _=>False
def wpR (c:Code) (K:Exit->ES->Prop) (st:ES):Prop :=
 Code.rec (motive:=fun _=>(Exit->ES->Prop)->ES->Prop)
  (fun K st=>K .normal st)
  (fun id ops draw K st=>regR P kp n tab H D id ops draw K st)
  (fun _ _ ia ib K st=>ia (seqK (ib K) K) st)
  (fun c _ _ ia ib K st=>cndR c (ia K) (ib K) st)
  (fun id _ ic K st=>ic (blkK id K) st)
  (fun _ ic K st=>∃ (α:Type) (I:α->ES) (ok:α->Prop) (μ:α->Nat) (x0:α),ok x0/\QnR kp st (I x0) /\ ∀ x,ok x->ic (Qt2 kp I ok μ x K) (I x))
  (fun _ _ _ _ _ _ _ _=>False)
  (fun id K st=>K (.exit id) st)
  (fun _ _ _ _=>False)
  (fun _ _ _=>False)
  (fun _ _ _=>False)
  (fun K st=>K .ret st)
  (fun _ _ _=>False) c K st
theorem JY:∀ (c:Code) (K:Exit->ES->Prop) (st:ES),wpR P kp n tab H D c K st=wpC P kp n tab H D c K st
 | .skip,K,st=>rfl
 | .region id ops draw,K,st=>by
  show regR P kp n tab H D id ops draw K st=_
  have e:∀ st:ES,Qt3 P kp n tab H D id ops draw K st=QtU P kp n tab H D id ops st (K .normal) draw:=fun st=>by
   unfold Qt3
   cases draw with
   | false=>exact Qij ..
   | true=>rfl
  unfold wpC regR
  cases QO id H.cu with
  | true =>
   simp only [cond_true,Qgu,e]
  | false=>exact e st
 | .seq a b,K,st=>by
  show wpR P kp n tab H D a (seqK (wpR P kp n tab H D b K) K) st=_;rw [JY a,show wpR P kp n tab H D b K=wpC P kp n tab H D b K from funext (JY b K)];show _=wpC P kp n tab H D a _ st;congr 1
 | .cond c a b,K,st=>by
  show cndR c (wpR P kp n tab H D a K) (wpR P kp n tab H D b K) st=_;rw [show wpR P kp n tab H D a K=wpC P kp n tab H D a K from funext (JY a K),show wpR P kp n tab H D b K=wpC P kp n tab H D b K from funext (JY b K)];rfl
 | .block id c,K,st=>by
  show wpR P kp n tab H D c (blkK id K) st=_;rw [JY c];show _=wpC P kp n tab H D c _ st;congr 1
 | .loop c,K,st=>by
  show (∃ (α:Type) (I:α->ES) (ok:α->Prop) (μ:α->Nat) (x0:α),ok x0/\QnR kp st (I x0) /\ ∀ x,ok x->wpR P kp n tab H D c (Qt2 kp I ok μ x K) (I x))=_
  have e:∀ (α:Type) (I:α->ES) (ok:α->Prop) (μ:α->Nat) (x:α),wpR P kp n tab H D c (Qt2 kp I ok μ x K) (I x)=wpC P kp n tab H D c (fun e st'=>match e with | .normal=>∃ y,ok y/\μ y < μ x/\WkG kp st' (I y) | e=>K e st') (I x):=by
   intro α I ok μ x;rw [JY c];congr 1
   funext e st'
   unfold Qt2;cases e <;> simp only [Qgu]
  simp only [e,Qgu];rfl
 | .rangeFunc _ _ _ _,K,st=>rfl
 | .exit id,K,st=>rfl
 | .scope _,K,st=>rfl
 | .label _,K,st=>rfl
 | .goto _,K,st=>rfl
 | .ret,K,st=>rfl
 | .refuse _,K,st=>rfl
end
def Qms (tab:TT) (kp:List Nat) (rs:List ResultVar) (hout:List (Nat×EB)) (res:EV) (st:ES):Prop :=
 match QeN tab st rs with
 | none=>False
 | some l=>match cvE st.heap (QnN l) res with
  | none=>False
  | some (C0,z,F)=>match fit (idK hout kp) z res with
   | none=>False
   | some (C1,τ)=>match QeM (F++st.heap) τ hout with
    | none=>False
    | some (C2,σ)=>bif Qkn kp σ && W3 (idK hout kp) && ndB st.heap F then obR (C0++(C1++C2)) True else False
theorem Qqs (tab:TT) (kp:List Nat) (rs:List ResultVar) (hout:List (Nat×EB)) (res:EV) (st:ES):Qms tab kp rs hout res st=Qic tab kp rs hout res st:=by
 simp only [Qms,Qic,JX] <;> rfl
def Qqt (tab:TT) (kp:List Nat) (rs:List ResultVar) (hout:List (Nat×EB)) (res:EV):Exit->ES->Prop:=fun e st=>match e with
 | .ret=>Qms tab kp rs hout res st
 | .normal=>Qms tab kp rs hout res st
 | _=>False
theorem gx {P:Program} {f:FuncId} {ags:List EV} {res:EV} {c:Bool} {Q:List EV->EV->Prop} (k:c=true->Cf P f [] ags [] res) (h:(c=true->Cf P f [] ags [] res)->Q ags res):∃ ags res,Q ags res:=⟨ags,res,h k⟩
theorem bsX:(∀ b:Bool,((!b)=true)=(b=false))/\(∀ b:Bool,((!b)=false)=(b=true))/\((!true)=false)/\((!false)=true)/\(∀ a b:Bool,((a && b)=true)=(a=true/\b=true))/\(∀ a b:Bool,((a || b)=true)=(a=true\/b=true))/\(∀ a b:Bool,((a && b)=false)=(a=false\/b=false))/\(∀ a b:Bool,((a || b)=false)=(a=false/\b=false))/\(∀ b:Bool,(!!b)=b)/\(∀ b:Bool,(b == true)=b)/\(∀ b:Bool,(b == false) = !b)/\(∀ (p:Prop) [Decidable p],(decide p=true)=p)/\(∀ (p:Prop) [Decidable p],(decide p=false)=¬p) :=
 ⟨Qxu,Bool.not_eq_false',rfl,rfl,Qxs,Qxr,fun a b=>propext (Bool.and_eq_false_iff),fun a b=>propext (QxA),Bool.not_not,fun b=>by cases b <;> rfl,fun b=>by cases b <;> rfl,fun p _=>decide_eq_true_eq,fun p _=>propext decide_eq_false_iff_not⟩
theorem knF {A B:Prop} (h:B):(false=true->A)/\(false=false->B):=⟨fun k=>Bool.noConfusion k,fun _=>h⟩
theorem knT {A B:Prop} (h:A):(true=true->A)/\(true=false->B):=⟨fun _=>h,fun k=>Bool.noConfusion k⟩
theorem gx2 {P:Program} {f:FuncId} {ags:List EV} {res:EV} {Q:List EV->EV->Prop} (k:Cf P f [] ags [] res) (h:Cf P f [] ags [] res->Q ags res):∃ ags res,Q ags res:=⟨ags,res,h k⟩
theorem Cf.introR {P:Program} {f m:Nat} {fn:Func} {c:Code} {rs:List ResultVar} {hin hout:List (Nat×EB)} {a5s:List EV} {res:EV} (tab:TT) (H:Hi) (D:Nat->Array Oper->ES->(ES->Prop)->Prop) (hcall:QX P f=true) (hP:tab.ok P) (hf:P.funcs[f]? = some fn) (hm:fn.ntmps=m) (hb:fn.body=some c) (hr:fn.results=rs.toArray)
  (hD:DOk P (hin.map (·.1)) m D) (hk:Nat.ble a5s.length m=true)
  (h:QdN (fun sl=>wpR P (hin.map (·.1)) m tab H D c (Qqt tab (hin.map (·.1)) rs hout res) ⟨sl,hin⟩) [] (slE 0 a5s)):Cf P f hin a5s hout res:=by
 refine Cf.intro tab H D hcall hP hf hm hb hr hD hk ?_;rw [QaI,JY] at h;rw [ZU]
 have e:Qqt tab (hin.map (·.1)) rs hout res=fun e st=>match e with | .ret=>Qic tab (hin.map (·.1)) rs hout res st | .normal=>Qic tab (hin.map (·.1)) rs hout res st | _=>False:=by
  funext e st
  unfold Qqt;cases e <;> simp only [Qqs]
 rw [e] at h;exact h
end
section
theorem tiM {T:TypeId} {i:TI} (e:TypeId:=0) (a:Q4 Tryz.prog T=some i.agg:=by kernel_rfl) (b:Zh Tryz.prog T=some i.sz:=by kernel_rfl)
  (c:∀ z,i.ze=some z->QjM Tryz.prog T=some z/\z.all (·.oneCell')=true:=by intro z h;cases h <;> exact ⟨by kernel_rfl,by kernel_rfl⟩)
  (d:∀ k,i.k=.int k->Tryz.prog.underlying T=some (.int k):=by intro k h;cases h <;> kernel_rfl)
  (f:i.k=.ptr->Tryz.prog.underlying T=some (.pointer e):=by intro h;cases h <;> kernel_rfl)
  (g:∀ l,i.ks=some l->Xd Tryz.prog 20 T=some l/\Tryz.prog.eqGuardType Tryz.prog.depth T=false:=by intro l h;cases h <;> exact ⟨by kernel_rfl,by kernel_rfl⟩)
  (s:i.k=.str->Tryz.prog.underlying T=some .string:=by intro h;cases h <;> kernel_rfl)
  (l:i.k=.bool->Tryz.prog.underlying T=some .bool:=by intro h;cases h <;> kernel_rfl)
  (m:∀ e sz b z,i.k=.sl e sz b z->Tryz.prog.underlying T=some (.slice e)/\X8 Tryz.prog T=some (e,sz)/\Qbh Tryz.prog T=some (e,sz,b,z)/\0 < sz/\z.all (·.oneCell')=true:=by intro e s b z h;cases h <;> exact ⟨by kernel_rfl,by kernel_rfl,by kernel_rfl,by decide,by kernel_rfl⟩)
  (n:∀ pl,i.k=.st pl->Qbc Tryz.prog T=some (pl.map fun p=>(p.1,p.2.1)):=by intro p h;cases h <;> kernel_rfl)
  (o:∀ pl,i.k=.st pl->stNA Tryz.prog T pl=true:=by intro p h;cases h <;> kernel_rfl)
  (mp:∀ K V,i.k=.mp K V->MapT Tryz.prog T K V:=by intro K V h;cases h)
  (q:∀ n s e,i.k=.ar n s e->Qhf Tryz.prog T=some (n,s)/\Tryz.prog.underlying T=some (.array n e)/\Zh Tryz.prog e=some s:=by intro n s e h;cases h <;> exact ⟨by kernel_rfl,by kernel_rfl,by kernel_rfl⟩):TIok Tryz.prog T i :=
 ⟨a,b,c,d,fun h=>⟨e,f h⟩,g,s,l,m,n,o,mp,q⟩
def Qil:TT:=(.node 140 ⟨.int .u64,false,1,(some [.int .u64 0]),none⟩ (.node 34 ⟨.int .u32,false,1,(some [.int .u32 0]),none⟩ (.node 21 ⟨.int .i32,false,1,(some [.int .i32 0]),none⟩ (.node 6 ⟨.int .u8,false,1,(some [.int .u8 0]),none⟩ (.node 4 ⟨.bool,false,1,(some [.bool false]),none⟩ (.node 3 ⟨.int .i64,false,1,(some [.int .i64 0]),none⟩ (.node 2 ⟨.int .i64,false,1,(some [.int .i64 0]),none⟩ .leaf .leaf) .leaf) (.node 5 ⟨.int .u8,false,1,(some [.int .u8 0]),none⟩ .leaf .leaf)) (.node 9 ⟨.str,false,1,(some [.string ⟨#[]⟩]),none⟩ (.node 7 ⟨.st [(0,1,true),(1,1,true),(2,1,true),(3,1,true)],true,4,(some [.int .i64 0,.int .i64 0,.bool false,.int .u8 0]),(some [.i .i64,.i .i64,.b,.i .u8])⟩ .leaf .leaf) (.node 11 ⟨.str,false,1,(some [.string ⟨#[]⟩]),none⟩ .leaf .leaf))) (.node 27 ⟨.sl 94 4 40 [.int .u32 0,.int .i64 0,.string ⟨#[]⟩,.int .i64 0],false,1,(some [.slice none 0 0]),none⟩ (.node 23 ⟨.sl 33 5 80 [.string ⟨#[]⟩,.string ⟨#[]⟩,.string ⟨#[]⟩,.int .i64 0,.slice none 0 0],false,1,(some [.slice none 0 0]),none⟩ (.node 22 ⟨.sl 44 4 40 [.int .i64 0,.int .i64 0,.int .i64 0,.string ⟨#[]⟩],false,1,(some [.slice none 0 0]),none⟩ .leaf .leaf) (.node 25 ⟨.st [(0,1,true),(1,1,true),(2,1,true)],true,3,(some [.string ⟨#[]⟩,.int .i64 0,.slice none 0 0]),none⟩ .leaf .leaf)) (.node 31 ⟨.sl 36 2 16 [.int .u32 0,.int .i64 0],false,1,(some [.slice none 0 0]),none⟩ (.node 28 ⟨.int .i64,false,1,(some [.int .i64 0]),none⟩ .leaf .leaf) (.node 33 ⟨.st [(0,1,true),(1,1,true),(2,1,true),(3,1,true),(4,1,true)],true,5,(some [.string ⟨#[]⟩,.string ⟨#[]⟩,.string ⟨#[]⟩,.int .i64 0,.slice none 0 0]),none⟩ .leaf .leaf)))) (.node 96 ⟨.sl 9 1 16 [.string ⟨#[]⟩],false,1,(some [.slice none 0 0]),none⟩ (.node 66 ⟨.st [(0,1,true),(1,1,true),(2,3,false),(5,1,true),(6,1,true)],true,7,(some [.bool false,.slice none 0 0,.string ⟨#[]⟩,.int .i64 0,.slice none 0 0,.string ⟨#[]⟩,.int .i64 0]),none⟩ (.node 48 ⟨.st [(0,1,true),(1,1,true),(2,1,true),(3,2,false)],true,5,(some [.int .i64 0,.string ⟨#[]⟩,.int .i64 0,.int .u32 0,.int .i64 0]),(some [.i .i64,.s,.i .i64,.i .u32,.i .i64])⟩ (.node 44 ⟨.st [(0,1,true),(1,1,true),(2,1,true),(3,1,true)],true,4,(some [.int .i64 0,.int .i64 0,.int .i64 0,.string ⟨#[]⟩]),(some [.i .i64,.i .i64,.i .i64,.s])⟩ (.node 36 ⟨.st [(0,1,true),(1,1,true)],true,2,(some [.int .u32 0,.int .i64 0]),(some [.i .u32,.i .i64])⟩ .leaf .leaf) .leaf) (.node 49 ⟨.sl 48 5 48 [.int .i64 0,.string ⟨#[]⟩,.int .i64 0,.int .u32 0,.int .i64 0],false,1,(some [.slice none 0 0]),none⟩ .leaf .leaf)) (.node 83 ⟨.st [(0,3,false),(3,1,true),(4,1,true),(5,7,false),(12,1,true),(13,1,true),(14,1,true)],true,15,(some [.string ⟨#[]⟩,.int .i64 0,.slice none 0 0,.slice none 0 0,.slice none 0 0,.bool false,.slice none 0 0,.string ⟨#[]⟩,.int .i64 0,.slice none 0 0,.string ⟨#[]⟩,.int .i64 0,.int .i64 0,.int .i64 0,.int .i64 0]),none⟩ (.node 81 ⟨.sl 151 41 416 [.string ⟨#[]⟩,.string ⟨#[]⟩,.bool false,.string ⟨#[]⟩,.string ⟨#[]⟩,.int .i64 0,.int .i64 0,.int .i64 0,.int .i64 0,.bool false,.int .i64 0,.int .u64 0,.bool false,.bool false,.string ⟨#[]⟩,.string ⟨#[]⟩,.int .i64 0,.int .i64 0,.int .i64 0,.int .i64 0,.bool false,.int .i64 0,.int .u64 0,.bool false,.bool false,.string ⟨#[]⟩,.string ⟨#[]⟩,.int .i64 0,.int .i64 0,.int .i64 0,.int .i64 0,.bool false,.int .i64 0,.int .u64 0,.bool false,.bool false,.int .i64 0,.string ⟨#[]⟩,.int .i64 0,.int .i64 0,.slice none 0 0],false,1,(some [.slice none 0 0]),none⟩ .leaf .leaf) (.node 94 ⟨.st [(0,2,false),(2,1,true),(3,1,true)],true,4,(some [.int .u32 0,.int .i64 0,.string ⟨#[]⟩,.int .i64 0]),(some [.i .u32,.i .i64,.s,.i .i64])⟩ .leaf .leaf))) (.node 118 ⟨.sl 3 1 8 [.int .i64 0],false,1,(some [.slice none 0 0]),none⟩ (.node 107 ⟨.ar 2 1 105,true,2,(some [.pointer none,.pointer none]),none⟩ (.node 105 ⟨.ptr,false,1,(some [.pointer none]),none⟩ .leaf .leaf) (.node 109 ⟨.st [(0,2,false),(2,1,true),(3,2,false)],true,5,(some [.int .u32 0,.int .i64 0,.string ⟨#[]⟩,.pointer none,.pointer none]),none⟩ .leaf .leaf)) (.node 133 ⟨.ar 2 3 25,true,6,(some [.string ⟨#[]⟩,.int .i64 0,.slice none 0 0,.string ⟨#[]⟩,.int .i64 0,.slice none 0 0]),none⟩ (.node 121 ⟨.ptr,false,1,(some [.pointer none]),none⟩ .leaf .leaf) (.node 138 ⟨.sl 34 1 4 [.int .u32 0],false,1,(some [.slice none 0 0]),none⟩ .leaf .leaf))))) (.node 249 ⟨.ar 11 1 9,true,11,(some (Qxq 11 (.string ⟨#[]⟩))),none⟩ (.node 161 ⟨.ar 3 1 28,true,3,(some [.int .i64 0,.int .i64 0,.int .i64 0]),none⟩ (.node 149 ⟨.sl 157 3 32 [.int .u32 0,.int .u32 0,.slice none 0 0],false,1,(some [.slice none 0 0]),none⟩ (.node 146 ⟨.st [(0,11,false),(11,11,false),(22,11,false)],true,33,(some [.bool false,.string ⟨#[]⟩,.string ⟨#[]⟩,.int .i64 0,.int .i64 0,.int .i64 0,.int .i64 0,.bool false,.int .i64 0,.int .u64 0,.bool false,.bool false,.string ⟨#[]⟩,.string ⟨#[]⟩,.int .i64 0,.int .i64 0,.int .i64 0,.int .i64 0,.bool false,.int .i64 0,.int .u64 0,.bool false,.bool false,.string ⟨#[]⟩,.string ⟨#[]⟩,.int .i64 0,.int .i64 0,.int .i64 0,.int .i64 0,.bool false,.int .i64 0,.int .u64 0,.bool false]),(some [.b,.s,.s,.i .i64,.i .i64,.i .i64,.i .i64,.b,.i .i64,.i .u64,.b,.b,.s,.s,.i .i64,.i .i64,.i .i64,.i .i64,.b,.i .i64,.i .u64,.b,.b,.s,.s,.i .i64,.i .i64,.i .i64,.i .i64,.b,.i .i64,.i .u64,.b])⟩ (.node 144 ⟨.st [(0,1,true),(1,1,true),(2,1,true),(3,1,true),(4,1,true),(5,1,true),(6,1,true),(7,3,false),(10,1,true)],true,11,(some [.bool false,.string ⟨#[]⟩,.string ⟨#[]⟩,.int .i64 0,.int .i64 0,.int .i64 0,.int .i64 0,.bool false,.int .i64 0,.int .u64 0,.bool false]),(some [.b,.s,.s,.i .i64,.i .i64,.i .i64,.i .i64,.b,.i .i64,.i .u64,.b])⟩ (.node 142 ⟨.st [(0,1,true),(1,1,true),(2,1,true)],true,3,(some [.bool false,.int .i64 0,.int .u64 0]),(some [.b,.i .i64,.i .u64])⟩ .leaf .leaf) .leaf) (.node 148 ⟨.st [(0,1,true),(1,1,true),(2,1,true),(3,1,true),(4,1,true)],true,5,(some [.bool false,.int .i64 0,.string ⟨#[]⟩,.int .i64 0,.int .i64 0]),(some [.b,.i .i64,.s,.i .i64,.i .i64])⟩ .leaf .leaf)) (.node 155 ⟨.sl 5 1 1 [.int .u8 0],false,1,(some [.slice none 0 0]),none⟩ (.node 151 ⟨.st [(0,1,true),(1,1,true),(2,33,false),(35,5,false),(40,1,true)],true,41,(some [.string ⟨#[]⟩,.string ⟨#[]⟩,.bool false,.string ⟨#[]⟩,.string ⟨#[]⟩,.int .i64 0,.int .i64 0,.int .i64 0,.int .i64 0,.bool false,.int .i64 0,.int .u64 0,.bool false,.bool false,.string ⟨#[]⟩,.string ⟨#[]⟩,.int .i64 0,.int .i64 0,.int .i64 0,.int .i64 0,.bool false,.int .i64 0,.int .u64 0,.bool false,.bool false,.string ⟨#[]⟩,.string ⟨#[]⟩,.int .i64 0,.int .i64 0,.int .i64 0,.int .i64 0,.bool false,.int .i64 0,.int .u64 0,.bool false,.bool false,.int .i64 0,.string ⟨#[]⟩,.int .i64 0,.int .i64 0,.slice none 0 0]),none⟩ .leaf .leaf) (.node 157 ⟨.st [(0,1,true),(1,1,true),(2,1,true)],true,3,(some [.int .u32 0,.int .u32 0,.slice none 0 0]),none⟩ .leaf .leaf))) (.node 202 ⟨.ptr,false,1,(some [.pointer none]),none⟩ (.node 192 ⟨.sl 196 2 32 [.string ⟨#[]⟩,.string ⟨#[]⟩],false,1,(some [.slice none 0 0]),none⟩ (.node 167 ⟨.int .u64,false,1,(some [.int .u64 0]),none⟩ .leaf .leaf) (.node 196 ⟨.st [(0,1,true),(1,1,true)],true,2,(some [.string ⟨#[]⟩,.string ⟨#[]⟩]),(some [.s,.s])⟩ .leaf .leaf)) (.node 218 ⟨.ar 5 1 3,true,5,(some (Qxq 5 (.int .i64 0))),none⟩ (.node 204 ⟨.st [(0,1,true),(1,1,true)],true,2,(some [.pointer none,.slice none 0 0]),none⟩ .leaf .leaf) (.node 222 ⟨.int .i64,false,1,(some [.int .i64 0]),none⟩ .leaf .leaf)))) (.node 287 ⟨.ar 2 1 9,true,2,(some [.string ⟨#[]⟩,.string ⟨#[]⟩]),none⟩ (.node 268 ⟨.ptr,false,1,(some [.pointer none]),none⟩ (.node 260 ⟨.ar 3 11 144,true,33,(some [.bool false,.string ⟨#[]⟩,.string ⟨#[]⟩,.int .i64 0,.int .i64 0,.int .i64 0,.int .i64 0,.bool false,.int .i64 0,.int .u64 0,.bool false,.bool false,.string ⟨#[]⟩,.string ⟨#[]⟩,.int .i64 0,.int .i64 0,.int .i64 0,.int .i64 0,.bool false,.int .i64 0,.int .u64 0,.bool false,.bool false,.string ⟨#[]⟩,.string ⟨#[]⟩,.int .i64 0,.int .i64 0,.int .i64 0,.int .i64 0,.bool false,.int .i64 0,.int .u64 0,.bool false]),none⟩ (.node 257 ⟨.ptr,false,1,(some [.pointer none]),none⟩ .leaf .leaf) (.node 264 ⟨.int .u64,false,1,(some [.int .u64 0]),none⟩ .leaf .leaf)) (.node 279 ⟨.ar 24 1 5,true,24,(some (Qxq 24 (.int .u8 0))),none⟩ (.node 270 ⟨.ar 2 2 36,true,4,(some [.int .u32 0,.int .i64 0,.int .u32 0,.int .i64 0]),none⟩ .leaf .leaf) (.node 283 ⟨.other,false,1,(some [.pointer none]),none⟩ .leaf .leaf))) (.node 304 ⟨.ar 64 1 5,true,64,(some (Qxq 64 (.int .u8 0))),none⟩ (.node 295 ⟨.ar 65 1 5,true,65,(some (Qxq 65 (.int .u8 0))),none⟩ (.node 294 ⟨.ar 20 1 140,true,20,(some (Qxq 20 (.int .u64 0))),none⟩ .leaf .leaf) (.node 303 ⟨.ar 32 1 5,true,32,(some (Qxq 32 (.int .u8 0))),none⟩ .leaf .leaf)) (.node 307 ⟨.st [(0,1,true),(1,1,true)],true,2,(some [.int .u8 0,.int .u8 0]),(some [.i .u8,.i .u8])⟩ (.node 305 ⟨.ar 256 1 5,true,256,none,none⟩ .leaf .leaf) (.node 308 ⟨.ar 16 2 307,true,32,(some (Qxq 32 (.int .u8 0))),none⟩ .leaf .leaf))))))
theorem JZ:Qil.ok Tryz.prog:=⟨tiM,⟨tiM,⟨tiM,⟨tiM,⟨tiM,⟨tiM,⟨tiM,trivial,trivial⟩,trivial⟩,⟨tiM,trivial,trivial⟩⟩,⟨tiM,⟨tiM,trivial,trivial⟩,⟨tiM,trivial,trivial⟩⟩⟩,⟨tiM,⟨tiM,⟨tiM,trivial,trivial⟩,⟨tiM,trivial,trivial⟩⟩,⟨tiM,⟨tiM,trivial,trivial⟩,⟨tiM,trivial,trivial⟩⟩⟩⟩,⟨tiM,⟨tiM,⟨tiM,⟨tiM,⟨tiM,trivial,trivial⟩,trivial⟩,⟨tiM,trivial,trivial⟩⟩,⟨tiM,⟨tiM,trivial,trivial⟩,⟨tiM,trivial,trivial⟩⟩⟩,⟨tiM,⟨tiM,⟨tiM (e:=109),trivial,trivial⟩,⟨tiM,trivial,trivial⟩⟩,⟨tiM,⟨tiM (e:=25),trivial,trivial⟩,⟨tiM,trivial,trivial⟩⟩⟩⟩⟩,⟨tiM,⟨tiM,⟨tiM,⟨tiM,⟨tiM,⟨tiM,trivial,trivial⟩,trivial⟩,⟨tiM,trivial,trivial⟩⟩,⟨tiM,⟨tiM,trivial,trivial⟩,⟨tiM,trivial,trivial⟩⟩⟩,⟨tiM (e:=204),⟨tiM,⟨tiM,trivial,trivial⟩,⟨tiM,trivial,trivial⟩⟩,⟨tiM,⟨tiM,trivial,trivial⟩,⟨tiM,trivial,trivial⟩⟩⟩⟩,⟨tiM,⟨tiM (e:=3),⟨tiM,⟨tiM (e:=5),trivial,trivial⟩,⟨tiM,trivial,trivial⟩⟩,⟨tiM,⟨tiM,trivial,trivial⟩,⟨tiM,trivial,trivial⟩⟩⟩,⟨tiM,⟨tiM,⟨tiM,trivial,trivial⟩,⟨tiM,trivial,trivial⟩⟩,⟨tiM,⟨tiM,trivial,trivial⟩,⟨tiM,trivial,trivial⟩⟩⟩⟩⟩⟩
theorem Qr (H:Hi) {f m:Nat} {fn:Func} {c:Code} {rs:List ResultVar} {i o:List (Nat×EB)} {a:List EV} {res:EV} (hf:Tryz.prog.funcs[f]? = some fn) (hm:fn.ntmps=m)
 (h:QdN (fun sl=>wpR Tryz.prog (i.map (·.1)) m Qil H D0 c (Qqt Qil (i.map (·.1)) rs o res) ⟨sl,i⟩) [] (slE 0 a)) (hc:QX Tryz.prog f=true:=by kernel_rfl) (hb:fn.body=some c:=by rfl) (hr:fn.results=rs.toArray:=by rfl) (hk:Nat.ble a.length m=true:=by kernel_rfl):Cf Tryz.prog f i a o res :=
 Cf.introR Qil H D0 hc JZ hf hm hb hr D0_ok hk h
theorem QJ (H:Hi) {f m:Nat} {fn:Func} {c:Code} {rs:List ResultVar} {i o:List (Nat×EB)} {a:List EV} {res:EV} (hf:Tryz.prog.funcs[f]? = some fn) (hm:fn.ntmps=m)
 (h:QdN (fun sl=>wpR Tryz.prog (i.map (·.1)) m Qil H (DR Tryz.prog (i.map (·.1)) m Qil H) c (Qqt Qil (i.map (·.1)) rs o res) ⟨sl,i⟩) [] (slE 0 a)) (hc:QX Tryz.prog f=true:=by kernel_rfl) (hb:fn.body=some c:=by rfl) (hr:fn.results=rs.toArray:=by rfl) (hk:Nat.ble a.length m=true:=by kernel_rfl):Cf Tryz.prog f i a o res :=
 Cf.introR Qil H (DR Tryz.prog (i.map (·.1)) m Qil H) hc JZ hf hm hb hr (DR_ok JZ (by kernel_rfl)) hk h
theorem Qt {α:Type} {p q r:α->Prop} (a:α) (k:r a) (h1:p a:=by assumption) (h2:q a:=by (simp only [SrcE.len,Nat.zero_add,List.length_append,Qxw,List.length_nil];omega)):∃ a,p a/\q a/\r a:=⟨a,h1,h2,k⟩
end
section
open Go.RowKit
def setCells (w:World) (b:Nat):Nat->List Value->World
 | _,[]=>w
 | o,x::xs=>setCells (w.setCell ⟨b,o,none⟩ x) b (o+1) xs
end
end Go.Proofs.YtcebndkiagbddaaGreatDoor
