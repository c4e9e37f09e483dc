/- A part of the proof: contracts of functions and what they stand on. Written shorter and merged by a program (pack.py). -/
import Derived.Test.YtcebndkiagbddaaGreatDoorK3
set_option linter.unusedVariables false
set_option linter.unusedSimpArgs false
set_option maxRecDepth 100000
set_option maxHeartbeats 4000000
open Bool renaming and_eq_true -> Qxo, or_eq_true -> QxB, not_eq_true' -> QxF
open Nat renaming eq_of_beq_eq_true -> Qxp, blt -> Qxr, min -> Qxs, beq -> Qxv, min_comm -> QxM, le_refl -> QxO
open BitVec renaming ofInt -> Qxq
open List renaming eq_nil_of_length_eq_zero -> Qxt, getElem?_map -> Qxu, map_toArray -> Qxx, length_map -> Qxy, map_cons -> QxA, mem_cons_of_mem -> QxC, map_nil -> QxD, mem_cons -> QxE, getElem?_eq_some_iff -> QxG, length_take -> QxH, drop_drop -> QxJ, take_append_drop -> QxK, mem_map -> QxL, getElem?_take -> QxN
open Array renaming getElem?_modify -> Qxw
open Option renaming map_some -> Qxz
open UInt8 renaming lt_iff_toNat_lt -> QxI
namespace Go.Proofs.YtcebndkiagbddaaGreatDoor
section
open Go.RowKit
def sg (σ:List (Nat×Nat)) (q:Nat):Nat:=look 0 σ q
def sgi (r:Nat):List (Nat×Nat)->Option Nat
 | []=>none
 | (q,x)::σ=>bif Qxv x r then some q else sgi r σ
def Q6 (q:Nat):List (Nat×Nat)->Bool
 | []=>false
 | (k,_)::σ=>Qxv k q || Q6 q σ
def W3:List (Nat×Nat)->Bool
 | []=>true
 | (q,x)::σ=>!Q6 q σ && (sgi x σ).isNone && W3 σ
mutual
def AV.sg (σ:List (Nat×Nat)):AV->AV
 | .p x=>.p x
 | .agg l=>.agg (sgL σ l)
 | .tup l=>.tup (sgL σ l)
 | .own q off=>.own (YtcebndkiagbddaaGreatDoor.sg σ q) off
 | .osl q n=>.osl (YtcebndkiagbddaaGreatDoor.sg σ q) n
 | .mref q=>.mref (YtcebndkiagbddaaGreatDoor.sg σ q)
 | .oss q k n s=>.oss (YtcebndkiagbddaaGreatDoor.sg σ q) k n s
 | .cnd g x=>.cnd g (AV.sg σ x)
 | .any=>.any
def sgL (σ:List (Nat×Nat)):List AV->List AV
 | []=>[]
 | x::xs=>AV.sg σ x::sgL σ xs
end
mutual
def AV.inD (σ:List (Nat×Nat)):AV->Bool
 | .p _=>true
 | .agg l=>Vf σ l
 | .tup l=>Vf σ l
 | .own q _=>Q6 q σ
 | .osl q _=>Q6 q σ
 | .mref q=>Q6 q σ
 | .oss q _ _ _=>Q6 q σ
 | .cnd _ x=>AV.inD σ x
 | .any=>true
def Vf (σ:List (Nat×Nat)):List AV->Bool
 | []=>true
 | x::xs=>AV.inD σ x && Vf σ xs
end
def OB.sg (σ:List (Nat×Nat)):OB->OB
 | .box cells t=>.box (sgL σ cells) t
 | .it m a b c=>.it (YtcebndkiagbddaaGreatDoor.sg σ m) a b c
 | .ra c t s ns=>.ra c t s (ns.map (YtcebndkiagbddaaGreatDoor.sg σ))
 | x=>x
def OB.inD (σ:List (Nat×Nat)):OB->Bool
 | .box cells _=>Vf σ cells
 | .it m _ _ _=>Q6 m σ
 | .ra _ _ _ ns=>ns.all fun q=>Q6 q σ
 | _=>true
theorem Z8:∀ {σ:List (Nat×Nat)} {q:Nat},W3 σ=true->Q6 q σ=true->sgi (sg σ q) σ=some q
 | [],q,_,h=>by cases h
 | (k,x)::σ,q,ho,h=>by
  simp only [W3,Qxo,QxF] at ho;obtain ⟨⟨h1,h2⟩,h3⟩:=ho;unfold sg;rw [Qb];by_cases e:k=q
  ·subst e;simp [sgi]
  ·rw [if_neg e]
   have hd:Q6 q σ=true:=by
    simp only [Q6,QxB] at h;rcases h with h | h
    ·exact absurd (Qxp h) e
    ·exact h
   have ih:=Z8 h3 hd;unfold sg at ih;simp only [sgi]
   cases hx:Qxv x (look 0 σ q) with
   | false=>exact ih
   | true =>
    have:=Qxp hx;rw [<- this] at ih;rw [ih] at h2;cases h2
theorem Qdd:∀ {σ:List (Nat×Nat)} {r q:Nat},W3 σ=true->sgi r σ=some q->Q6 q σ=true/\sg σ q=r
 | [],r,q,_,h=>by cases h
 | (k,x)::σ,r,q,ho,h=>by
  simp only [W3,Qxo,QxF] at ho;simp only [sgi] at h;unfold sg;rw [Qb]
  cases hx:Qxv x r with
  | true =>
   rw [hx] at h;simp at h;subst h;exact ⟨by simp [Q6],by rw [if_pos rfl];exact Qxp hx⟩
  | false =>
   rw [hx] at h;simp at h;obtain ⟨h1,h2⟩:=Qdd ho.2 h;have hne:k≠q:=fun e=>by subst e;rw [h1] at ho;simp at ho
   exact ⟨by simp [Q6,h1],by rw [if_neg hne];exact h2⟩
section
variable {w:World} {Pub:Nat->Nat->Prop} {φ ψ:Qi} {σ:List (Nat×Nat)}
mutual
theorem Qde (H:∀ q,Q6 q σ=true->ψ (sg σ q)=φ q):∀ (x:AV) (u:Value),x.inD σ=true->(RA w Pub ψ (x.sg σ) u↔RA w Pub φ x u)
 | .p x,u,_=>by simp only [AV.sg,RA]
 | .agg l,u,h=>by
  unfold AV.inD at h;simp only [AV.sg,RA];constructor
  ·rintro ⟨vs,e,k⟩;exact ⟨vs,e,(Vg H l vs h).1 k⟩
  ·rintro ⟨vs,e,k⟩;exact ⟨vs,e,(Vg H l vs h).2 k⟩
 | .tup l,u,h=>by
  unfold AV.inD at h;simp only [AV.sg,RA];constructor
  ·rintro ⟨vs,e,k⟩;exact ⟨vs,e,(Vg H l vs h).1 k⟩
  ·rintro ⟨vs,e,k⟩;exact ⟨vs,e,(Vg H l vs h).2 k⟩
 | .own q off,u,h=>by unfold AV.inD at h;simp only [AV.sg,RA,H q h]
 | .osl q n,u,h=>by unfold AV.inD at h;simp only [AV.sg,RA,H q h]
 | .mref q,u,h=>by unfold AV.inD at h;simp only [AV.sg,RA,H q h]
 | .oss q _ _ _,u,h=>by unfold AV.inD at h;simp only [AV.sg,RA,H q h]
 | .cnd g x,u,h=>by
  unfold AV.inD at h;simp only [AV.sg,RA];constructor
  ·rintro ⟨k1,k2⟩;exact ⟨fun hg=>(Qde H x u h).1 (k1 hg),k2⟩
  ·rintro ⟨k1,k2⟩;exact ⟨fun hg=>(Qde H x u h).2 (k1 hg),k2⟩
 | .any,u,_=>by simp only [AV.sg,RA]
theorem Vg (H:∀ q,Q6 q σ=true->ψ (sg σ q)=φ q):∀ (l:List AV) (us:List Value),Vf σ l=true->(RAs w Pub ψ (sgL σ l) us↔RAs w Pub φ l us)
 | [],us,_=>by simp only [sgL,RAs]
 | x::xs,us,h=>by
  simp only [Vf,Qxo] at h;simp only [sgL,RAs];constructor
  ·rintro ⟨u,us',e,k1,k2⟩;exact ⟨u,us',e,(Qde H x u h.1).1 k1,(Vg H xs us' h.2).1 k2⟩
  ·rintro ⟨u,us',e,k1,k2⟩;exact ⟨u,us',e,(Qde H x u h.1).2 k1,(Vg H xs us' h.2).2 k2⟩
end
theorem Qpn (H:∀ q,Q6 q σ=true->ψ (sg σ q)=φ q) {q:Nat} (hq:Q6 q σ=true) {ob:OB} (hi:ob.inD σ=true):Hp w Pub ψ (sg σ q) (ob.sg σ)↔Hp w Pub φ q ob:=by
 cases ob with
 | dead=>exact Iff.rfl
 | row cells t sz pub=>simp only [OB.sg,Hp,H q hq]
 | ra cells t sz ns =>
  have hl:loc ψ (ns.map (sg σ))=loc φ ns:=by
   funext j
   unfold loc;rw [Qxu]
   cases hj:ns[j]? with
   | none=>rfl
   | some x=>exact H x (List.all_eq_true.1 hi x (List.mem_of_getElem? hj))
  simp only [OB.sg,Hp,H q hq,hl]
 | obj p=>simp only [OB.sg,Hp,H q hq]
 | it m a b c=>have hm:Q6 m σ=true:=hi;simp only [OB.sg,Hp,H q hq,H m hm]
 | box cells t =>
  simp only [OB.sg,Hp,H q hq];constructor
  ·rintro ⟨b,cur,k1,k2,k3,k4⟩;exact ⟨b,cur,k1,k2,(Vg H cells _ hi).1 k3,k4⟩
  ·rintro ⟨b,cur,k1,k2,k3,k4⟩;exact ⟨b,cur,k1,k2,(Vg H cells _ hi).2 k3,k4⟩
end
def sgH (σ:List (Nat×Nat)):List (Nat×OB)->List (Nat×OB)
 | []=>[]
 | (q,ob)::h=>(sg σ q,ob.sg σ)::sgH σ h
def Y4 (σ:List (Nat×Nat)):List (Nat×OB)->Bool
 | []=>true
 | (q,ob)::h=>Q6 q σ && ob.inD σ && Y4 σ h
def Zx (σ:List (Nat×Nat)):List (Nat×OB)->List (Nat×OB)
 | []=>[]
 | (q,_)::h=>(sg σ q,.dead)::Zx σ h
def Qhq (st:AS) (σ:List (Nat×Nat)):List (Nat×OB)->Prop
 | []=>True
 | (q,ob)::h=>st.ob (sg σ q)=ob.sg σ/\ob.alive=true/\Qhq st σ h
def Qam (st:AS) (kp:List Nat) (hin:List (Nat×OB)):List (Nat×Nat)->Bool
 | []=>true
 | (q,x)::σ=>((look OB.dead hin q).alive || st.free kp x) && Qam st kp hin σ
theorem Qan {σ:List (Nat×Nat)} (ho:W3 σ=true) {q:Nat} (hq:Q6 q σ=true):∀ {h:List (Nat×OB)},Y4 σ h=true->look OB.dead (sgH σ h) (sg σ q)=(look OB.dead h q).sg σ
 | [],_=>rfl
 | (k,ob)::h,hi=>by
  simp only [Y4,Qxo] at hi;simp only [sgH,Qb];by_cases e:k=q
  ·subst e;rw [if_pos rfl,if_pos rfl]
  ·have:sg σ k≠sg σ q:=fun e2=>by
    have h1:=Z8 ho hi.1.1;have h2:=Z8 ho hq;rw [e2,h2] at h1;injection h1 with h1;exact e h1.symm
   rw [if_neg e,if_neg this];exact Qan ho hq hi.2
theorem Zp {σ:List (Nat×Nat)} {q:Nat}:∀ {h:List (Nat×OB)},Y4 σ h=true->(look OB.dead h q).inD σ=true/\((look OB.dead h q).alive=true->Q6 q σ=true)
 | [],_=>⟨rfl,fun h=>by cases h⟩
 | (k,ob)::h,hi=>by
  simp only [Y4,Qxo] at hi;rw [Qb];by_cases e:k=q
  ·subst e;rw [if_pos rfl];exact ⟨hi.1.2,fun _=>hi.1.1⟩
  ·rw [if_neg e];exact Zp hi.2
theorem Qhr {σ:List (Nat×Nat)} {ob:OB}:(ob.sg σ).alive=ob.alive:=by cases ob <;> rfl
theorem Qdf {st:AS} {σ:List (Nat×Nat)} {q:Nat}:∀ {h:List (Nat×OB)},Qhq st σ h->(look OB.dead h q).alive=true->look OB.dead st.heap (sg σ q)=(look OB.dead h q).sg σ
 | [],_,ha=>by cases ha
 | (k,ob)::h,hs,ha=>by
  obtain ⟨h1,_,h2⟩:=hs;rw [Qb] at ha ⊢;by_cases e:k=q
  ·subst e;rw [if_pos rfl];exact h1
  ·rw [if_neg e] at ha ⊢;exact Qdf h2 ha
def QD {α:Type} (r:Nat):List (Nat×α)->Bool
 | []=>false
 | (k,_)::l=>Qxv k r || QD r l
theorem Qv {α:Type} {d:α} (X:List (Nat×α)) (r:Nat):∀ (l:List (Nat×α)),look d (l++X) r=if QD r l=true then look d l r else look d X r
 | []=>by simp [QD]
 | (k,x)::l=>by
  rw [List.cons_append,Qb,Qb];by_cases e:k=r
  ·subst e;simp [QD]
  ·have hb:Qxv k r=false:=by
    cases hb:Qxv k r
    ·rfl
    ·exact absurd (Qxp hb) e
   rw [if_neg e,if_neg e,Qv X r l];simp only [QD,hb,Bool.false_or]
theorem Qhs {σ:List (Nat×Nat)} {r:Nat} (hr:sgi r σ=none) (ho:W3 σ=true):∀ {h:List (Nat×OB)},Y4 σ h=true->QD r (sgH σ h)=false
 | [],_=>rfl
 | (k,ob)::h,hi=>by
  simp only [Y4,Qxo] at hi;simp only [sgH,QD,Qhs hr ho hi.2,Bool.or_false];cases hb:Qxv (sg σ k) r
  ·rfl
  ·have:=Qxp hb;subst this;rw [Z8 ho hi.1.1] at hr;cases hr
theorem Qdg {σ:List (Nat×Nat)} {r:Nat} (hr:sgi r σ=none) (ho:W3 σ=true):∀ {h:List (Nat×OB)},Y4 σ h=true->QD r (Zx σ h)=false
 | [],_=>rfl
 | (k,ob)::h,hi=>by
  simp only [Y4,Qxo] at hi;simp only [Zx,QD,Qdg hr ho hi.2,Bool.or_false];cases hb:Qxv (sg σ k) r
  ·rfl
  ·have:=Qxp hb;subst this;rw [Z8 ho hi.1.1] at hr;cases hr
theorem Qdh {σ:List (Nat×Nat)} {r:Nat}:∀ {h:List (Nat×OB)},look OB.dead (Zx σ h) r=.dead
 | []=>rfl
 | (k,ob)::h=>by
  simp only [Zx,Qb];split
  ·rfl
  ·exact Qdh
theorem Qao {σ:List (Nat×Nat)} {q:Nat}:∀ {h:List (Nat×OB)},QD (sg σ q) (Zx σ h)=false->(look OB.dead h q).alive=false
 | [],_=>rfl
 | (k,ob)::h,hn=>by
  simp only [Zx,QD,Bool.or_eq_false_iff] at hn;rw [Qb];by_cases e:k=q
  ·subst e;simp at hn
  ·rw [if_neg e];exact Qao hn.2
theorem Qf1:∀ {σ:List (Nat×Nat)} {r q:Nat},sgi r σ=some q->(q,r)∈σ
 | [],r,q,h=>by cases h
 | (k,x)::σ,r,q,h=>by
  simp only [sgi] at h
  cases hx:Qxv x r with
  | true =>
   rw [hx] at h;simp at h;subst h;have:=Qxp hx;subst this;simp
  | false=>rw [hx] at h;simp at h;exact QxC _ (Qf1 h)
theorem Qht {σ:List (Nat×Nat)} (ho:W3 σ=true) {hin hout H:List (Nat×OB)} (hi:Y4 σ hin=true) (hu:Y4 σ hout=true) (hcov:∀ p∈σ,(look OB.dead hin p.1).alive=true\/(look OB.dead H p.2).alive=false) (r:Nat)
  (ha:(look OB.dead (sgH σ hout++(Zx σ hin++H)) r).alive=true) :
   (∃ q,Q6 q σ=true/\sg σ q=r/\(look OB.dead hout q).alive=true/\look OB.dead (sgH σ hout++(Zx σ hin++H)) r=(look OB.dead hout q).sg σ) \/
   (sgi r σ=none/\look OB.dead (sgH σ hout++(Zx σ hin++H)) r=look OB.dead H r):=by
 rw [Qv,Qv] at ha ⊢
 cases hr:sgi r σ with
 | none =>
  rw [Qhs hr ho hu,Qdg hr ho hi];exact .inr ⟨rfl,by simp⟩
 | some q =>
  obtain ⟨h1,h2⟩:=Qdd ho hr;refine .inl ⟨q,h1,h2,?_⟩;have hl:look OB.dead (sgH σ hout) r=(look OB.dead hout q).sg σ:=by rw [<- h2];exact Qan ho h1 hu
  by_cases k1:QD r (sgH σ hout)=true
  ·rw [if_pos k1] at ha ⊢;rw [hl] at ha ⊢;rw [Qhr] at ha;exact ⟨ha,rfl⟩
  ·rw [if_neg k1] at ha;by_cases k2:QD r (Zx σ hin)=true
   ·rw [if_pos k2,Qdh] at ha;cases ha
   ·rw [if_neg k2] at ha;rcases hcov _ (Qf1 hr) with h | h
    ·have:=Qao (σ:=σ) (q:=q) (h:=hin) (by rw [h2];simpa using k2);rw [this] at h;cases h
    ·rw [h] at ha;cases ha
section
variable {P:Program} {E:Env} {kp:List Nat} {n:Nat} {ops:Array Oper} {st st':AS}
theorem Qbm {hin:List (Nat×OB)}:∀ {σ:List (Nat×Nat)} {p:Nat×Nat},Qam st kp hin σ=true->p∈σ->(look OB.dead hin p.1).alive=true\/st.free kp p.2=true
 | (q,x)::σ,p,h,hp=>by
  simp only [Qam,Qxo,QxB] at h;rcases QxE.1 hp with e | e
  ·subst e;exact h.1
  ·exact Qbm h.2 e
theorem Qvs {f:FuncId} {d:Option Tmp} {args:List Operand} {argTypes:Array TypeId} {ty:TypeId} {ps:String} {af:Array Edge} {a5s:List AV} {hin hout:List (Nat×OB)} {res:AV} (σ:List (Nat×Nat)) (hc:QX P f=true)
  (hev:Ev P f hin a5s hout res) (hsame:Qhq st σ hin) (hchk:(W3 σ && Vf σ a5s && Y4 σ hin && Y4 σ hout && res.inD σ && Qam st kp hin σ)=true) (hcl:(WH hout hout && res.inH hout)=true)
  (hd:∀ x,d=some x->Qxr x n=true) {a:Act} {w:World} {K:Act->World->Prop} {Q:Exit->Act->World->Prop} {φ:Qi} {Pub:Nat->Nat->Prop} (I:Inv E kp φ Pub st.heap w) (h0:a.defers=[]) (hn:a.tmps.size=n)
  (hs:∀ s,RA w Pub φ (look .any st.slots s) (a.tmps.getD s undef)) {x:Operand} {caps:List Value} (hx:a.eval x=.func (.func f) #[] caps.toArray) (hA0:RAs w Pub φ (sgL σ a5s) (args.map a.eval++caps))
  (hK:∀ a' w',Sat E kp n ⟨(match d with | some x=>(x,res.sg σ)::st.slots | none=>st.slots),sgH σ hout++(Zx σ hin++st.heap)⟩ a' w'->K a' w') :
  Oper.wp P ⟨d,.call { callee:=.value x,args:=args.toArray,argTypes },ty,ps,af,none⟩ a w K Q:=by
 simp only [Qxo] at hchk hcl;obtain ⟨⟨⟨⟨⟨ho,hia⟩,hii⟩,hio⟩,hir⟩,hnew⟩:=hchk;have hcov:∀ p∈σ,(look OB.dead hin p.1).alive=true\/(look OB.dead st.heap p.2).alive=false:=fun p hp=>(Qbm hnew hp).imp id fun h=>(Qu h).1
 let φ1:Qi:=fun q=>φ (sg σ q)
 have hinA:∀ q,(look OB.dead hin q).alive=true->Q6 q σ=true/\look OB.dead st.heap (sg σ q)=(look OB.dead hin q).sg σ/\(look OB.dead st.heap (sg σ q)).alive=true:=fun q hq=>by
  have h1:=Qdf hsame hq;exact ⟨(Zp hii).2 hq,h1,by rw [h1,Qhr];exact hq⟩
 let E1:Env:=⟨w,fun b=>∃ q c,(look OB.dead hin q).alive=true/\φ1 q=some (b,c),Pub,φ1,I.amb,fun t ht ⟨q,c,ha,hb⟩=>QvM (I.own (sg σ q)) (hinA q ha).2.2 hb (I.amb t ht).1⟩
 have I1:Inv E1 (hin.map (·.1)) φ1 Pub hin w:=by
  refine ⟨rfl,rfl,rfl,QxO _,fun _ _ _=>rfl,fun q=>?_,fun q b c hq hb=>.inr ⟨q,c,hq,hb⟩,fun q q' b c c' hq hq' hb hb'=>?_,fun _ _ h=>h,fun _ _ h=>.inl h,I.publ,fun _ _ _=>rfl,fun _ _=>rfl⟩
  ·cases ha:(look OB.dead hin q).alive with
   | false=>cases hz:look OB.dead hin q <;> rw [hz] at ha <;> first | trivial | cases ha
   | true =>
    obtain ⟨h1,h2,h3⟩:=hinA q ha;have k:=I.own (sg σ q);rw [h2] at k;exact (Qpn (ψ:=φ) (φ:=φ1) (fun _ _=>rfl) h1 (Zp hii).1).1 k
  ·obtain ⟨h1,h2,h3⟩:=hinA q hq;obtain ⟨h1',h2',h3'⟩:=hinA q' hq';have e:=I.inj _ _ b c c' h3 h3' hb hb';have k1:=Z8 ho h1;rw [e,Z8 ho h1'] at k1;injection k1 with k1;exact k1.symm
 have hA:RAs w Pub φ1 a5s (args.map a.eval++caps):=by
  exact (Vg (ψ:=φ) (φ:=φ1) (fun _ _=>rfl) a5s _ hia).1 hA0
 have hcall:=hev E1 φ1 Pub w (args.map a.eval++caps) rfl rfl I1 hA
 have hrun:(execOp a.eval ⟨d,.call { callee:=.value x,args:=args.toArray,argTypes },ty,ps,af,none⟩).run P w=.ok (.enter f (args.map a.eval++caps).toArray) w:=by
  simp [execOp,resolve,hx,Deferred.ofValue,invoke,Qag hc]
 unfold Oper.wp;rw [hrun];show Calls P f _ w _;refine hcall.mono ?_;rintro e w' ⟨v,φ',Pub',rfl,I',hR⟩;refine hK _ _ ?_;have H:Adv w Pub w' Pub':=fun b i hp=>⟨I'.pub0 b i hp,I'.same b i hp⟩
 let ψ:Qi:=fun r=>match sgi r σ with | some q=>φ' q | none=>φ r
 have hψ:∀ q,Q6 q σ=true->ψ (sg σ q)=φ' q:=fun q hq=>by show (match sgi (sg σ q) σ with | some q=>φ' q | none=>_)=_;rw [Z8 ho hq]
 have hψo:∀ r,sgi r σ=none->ψ r=φ r:=fun r hr=>by show (match sgi r σ with | some q=>φ' q | none=>_)=_;rw [hr]
 have hkept:∀ q,(look OB.dead hin q).alive=true->φ' q=φ1 q:=fun q hq=>I'.kept q (by
  have:=VM hq
  exact QxL.2 ⟨_,this,rfl⟩)
 have hstale:∀ r,(∀ x,sgi r σ=some x->(look OB.dead hin x).alive=true)->ψ r=φ r:=fun r hr=>by
  cases hz:sgi r σ with
  | none=>exact hψo r hz
  | some q =>
   obtain ⟨h1,h2⟩:=Qdd ho hz;rw [<- h2,hψ q h1,hkept q (hr q hz)]
 have hspk:∀ r,(st.free kp r=false)->ψ r=φ r:=fun r hr=>hstale r fun q hq=>by
  rcases Qbm hnew (Qf1 hq) with h | h
  ·exact h
  ·rw [hr] at h;cases h
 have hsA:∀ b,E1.A b->b < w.heap.size/\(E.w0.heap.size<=b\/E.A b):=fun b ⟨q,c,hq,hb⟩=>by
  obtain ⟨h1,h2,h3⟩:=hinA q hq;exact ⟨I.lt h3 hb,I.mine _ b c h3 hb⟩
 have hother:∀ r b c,sgi r σ=none->(look OB.dead st.heap r).alive=true->φ r=some (b,c)->¬ E1.A b:=fun r b c hr ha hb ⟨q,c',hq,hb'⟩=>by
  obtain ⟨h1,h2,h3⟩:=hinA q hq;have:=I.inj r _ b c c' ha h3 hb hb';rw [this,Z8 ho h1] at hr;cases hr
 have hbeh:=Qht ho hii hio hcov
 have IN:Inv E kp ψ Pub' (sgH σ hout++(Zx σ hin++st.heap)) w':=by
  refine I.next I'.os I'.tape I'.output I'.size (fun b hb hA=>I'.block b (Nat.lt_of_lt_of_le hb I.size) (fun h=>by
    rcases (hsA b h).2 with h | h
    ·omega
    ·exact hA h)) H (fun b i hp=>?_) I'.publ (fun r hr=>?_) (fun r b c hr hb=>?_) (fun r r' b c c' hr hr' hb hb'=>?_) (fun r hr=>?_)
  ·rcases I'.pubs b i hp with h | h | h
   ·exact .inl h
   ·exact .inr (.inl (Nat.le_trans I.size h))
   ·exact .inr (hsA b h).2
  ·rcases hbeh r hr with ⟨q,h1,h2,h3,h4⟩ | ⟨h1,h2⟩
   ·rw [h4,<- h2];exact (Qpn (ψ:=ψ) (φ:=φ') hψ h1 (Zp hio).1).2 (I'.own q)
   ·rw [h2] at hr ⊢;refine ZO H (fun b c hb=>⟨I'.block b (I.lt hr hb) (hother r b c h1 hr hb),fun i hp=>?_⟩) (hψo r h1) (fun x hx=>hspk x ?_) (I.own r)
    ·rcases I'.pubs b i hp with h | h | h
     ·exact h
     ·exact absurd (I.lt hr hb) (Nat.not_lt.2 h)
     ·exact absurd h (hother r b c h1 hr hb)
    ·cases hf:st.free kp x with
     | false=>rfl
     | true=>rw [YJ (Qu hf).2.1] at hx;cases hx
  ·rcases hbeh r hr with ⟨q,h1,h2,h3,h4⟩ | ⟨h1,h2⟩
   ·rw [<- h2,hψ q h1] at hb;rcases I'.mine q b c h3 hb with h | h
    ·exact .inl (Nat.le_trans I.size h)
    ·exact (hsA b h).2
   ·rw [hψo r h1] at hb;rw [h2] at hr;exact I.mine r b c hr hb
  ·rcases hbeh r hr with ⟨q,h1,h2,h3,h4⟩ | ⟨h1,h2⟩ <;> rcases hbeh r' hr' with ⟨q',k1,k2,k3,k4⟩ | ⟨k1,k2⟩
   ·rw [<- h2,hψ q h1] at hb;rw [<- k2,hψ q' k1] at hb';rw [<- h2,<- k2,I'.inj q q' b c c' h3 k3 hb hb']
   ·rw [<- h2,hψ q h1] at hb;rw [hψo r' k1] at hb';rw [k2] at hr';rcases I'.mine q b c h3 hb with h | h
    ·exact absurd (I.lt hr' hb') (Nat.not_lt.2 h)
    ·exact absurd h (hother r' b c' k1 hr' hb')
   ·rw [hψo r h1] at hb;rw [<- k2,hψ q' k1] at hb';rw [h2] at hr;rcases I'.mine q' b c' k3 hb' with h | h
    ·exact absurd (I.lt hr hb) (Nat.not_lt.2 h)
    ·exact absurd h (hother r b c h1 hr hb)
   ·rw [hψo r h1] at hb;rw [hψo r' k1] at hb';rw [h2] at hr;rw [k2] at hr';exact I.inj r r' b c c' hr hr' hb hb'
  ·refine hspk r ?_
   cases hf:st.free kp r with
   | false=>rfl
   | true=>exact absurd hr (Qu hf).2.2.2
 have hR':RA w' Pub' ψ (res.sg σ) v:=(Qde (ψ:=ψ) (φ:=φ') hψ res v hir).2 hR
 have hS:∀ s,RA w' Pub' ψ (look .any st.slots s) (a.tmps.getD s undef):=fun s=>QF H _ _ (fun x hx=>hspk x (by
   cases hf:st.free kp x with
   | false=>rfl
   | true=>rw [Wf (Qu hf).2.2.1] at hx;cases hx)) (hs s)
 cases d with
 | none=>exact ⟨ψ,Pub',IN,h0,hn,hS⟩
 | some x=>exact Sat.put IN h0 hn hS (hd x rfl) hR'
theorem QsU {f:FuncId} {d:Option Tmp} {args:List Operand} {argTypes:Array TypeId} {ty:TypeId} {ps:String} {af:Array Edge} {a5s:List AV} {hin hout:List (Nat×OB)} {res:AV} (σ:List (Nat×Nat)) (hc:QX P f=true)
  (hev:Ev P f hin a5s hout res) (hargs:Vs (args.map st.ev) (sgL σ a5s)) (hsame:Qhq st σ hin) (hchk:(W3 σ && Vf σ a5s && Y4 σ hin && Y4 σ hout && res.inD σ && Qam st kp hin σ)=true) (hcl:(WH hout hout && res.inH hout)=true)
  (hd:∀ x,d=some x->Qxr x n=true) :
  Qd P E kp n ops ⟨d,.call { callee:=.value (.func f),args:=args.toArray,argTypes },ty,ps,af,none⟩ st ⟨(match d with | some x=>(x,res.sg σ)::st.slots | none=>st.slots),sgH σ hout++(Zx σ hin++st.heap)⟩:=by
 intro a w K Q ⟨φ,Pub,I,h0,hn,hs⟩ hK;rw [if_pos (by rfl)];exact Qvs σ hc hev hsame hchk hcl hd I h0 hn hs (x:=.func f) (caps:=[]) rfl (by rw [List.append_nil];exact hargs.R (Qvp (st:=st) hs args)) (fun a' w' h=>hK a' w' (by cases d <;> exact h))
theorem QlL {σ:List (Nat×Nat)} {q:Nat} {x:OB}:∀ {h:List (Nat×OB)},(q,x)∈h->(sg σ q,x.sg σ)∈sgH σ h
 | (k,ob)::h,hm=>by
  rcases QxE.1 hm with e | e
  ·cases e;simp [sgH]
  ·simp only [sgH];exact QxC _ (QlL e)
theorem Qhu {hin hout:List (Nat×OB)} {τ:List (Nat×Nat)} (hf:Yi st kp (sgH τ hout)=true):∀ {σ:List (Nat×Nat)},(∀ p∈σ,sg τ p.1=p.2)->(σ.all fun p=>(look OB.dead hout p.1).alive)=true->Qam st kp hin σ=true
 | [],_,_=>rfl
 | (q,x)::σ,hs,hc=>by
  simp only [List.all_cons,Qxo] at hc;simp only [Qam,Qxo,QxB];refine ⟨.inr ?_,Qhu hf (fun p hp=>hs p (QxC _ hp)) hc.2⟩;have:=Xc hf (QlL (VM hc.1));have e:=hs (q,x) (by simp);simp only at e this;rw [<- e];exact this
theorem Qf2:∀ {σ:List (Nat×Nat)},W3 σ=true -> ∀ p∈σ,sg σ p.1=p.2
 | (k,x)::σ,ho,p,hp=>by
  simp only [W3,Qxo,QxF] at ho;unfold sg;rw [Qb];rcases QxE.1 hp with e | e
  ·subst e;rw [if_pos rfl]
  ·have hne:k≠p.1:=fun e2=>by
    have:Q6 p.1 σ=true:=by
     clear ho hp
     induction σ with
     | nil=>cases e
     | cons q σ ih =>
      rcases QxE.1 e with e | e
      ·subst e;simp [Q6]
      ·simp [Q6,ih e]
    rw [<- e2,ho.1.1] at this;cases this
   rw [if_neg hne];exact Qf2 ho.2 p e
theorem QsV {f:FuncId} {d:Option Tmp} {args:List Operand} {argTypes:Array TypeId} {ty:TypeId} {ps:String} {af:Array Edge} {a5s:List AV} {hout:List (Nat×OB)} {res:AV} (σ:List (Nat×Nat)) (hc:QX P f=true)
  (hev:Ev P f [] a5s hout res) (hargs:Vs (args.map st.ev) (sgL σ a5s)) (hchk:(W3 σ && Vf σ a5s && Y4 σ hout && res.inD σ && (σ.all fun p=>(look OB.dead hout p.1).alive))=true) (hcl:(WH hout hout && res.inH hout)=true)
  (hf:Yi st kp (sgH σ hout)=true) (hd:∀ x,d=some x->Qxr x n=true) :
  Qd P E kp n ops ⟨d,.call { callee:=.value (.func f),args:=args.toArray,argTypes },ty,ps,af,none⟩ st ⟨(match d with | some x=>(x,res.sg σ)::st.slots | none=>st.slots),sgH σ hout++st.heap⟩:=by
 simp only [Qxo] at hchk;obtain ⟨⟨⟨⟨h1,h2⟩,h3⟩,h4⟩,h5⟩:=hchk
 exact QsU σ hc hev hargs trivial (by
  simp only [Qxo]
  exact ⟨⟨⟨⟨⟨h1,h2⟩,rfl⟩,h3⟩,h4⟩,Qhu hf (Qf2 h1) h5⟩) hcl hd
end
end
section
open Go.RowKit
section
variable {P:Program} {E:Env} {kp:List Nat} {n:Nat} {ops:Array Oper} {st:AS} {d:Nat} {ty:TypeId} {ps:String} {af:Array Edge}
theorem Qap {dT sT e:TypeId} (hu:P.underlying dT=some (.slice e)) (hs:Zh P e=some 1) {b m c k:Nat} {u:Value} {w:World} {cur:Array Value} {t:TypeId} {fr:Nat×Nat} (hb:w.heap[b]? = some (.cells cur t fr)) (hfr:Qhb t cur.size fr)
  (hk:(Builtin.lenOf u).run P w=.ok k w) {vs:List Value} (hf:(Builtin.firstCells 1 (Qxs k m) u).run P w=.ok vs.toArray w) (hl:vs.length=Qxs k m) (hin:vs.length<=cur.size) (h1:∀ v∈vs,v.oneCell'=true) :
  (Builtin.copy_ #[dT,sT] ty #[.slice (some ⟨b,0,none⟩) m c,u]).run P w=.ok (goInt vs.length) (w.setCells b 0 vs):=by
 have hst:=run_storeCells_cells (P:=P) b 0 vs 0 w (fun j hj=>by
  rw [cell_of_row w b _ cur t fr hb,Array.getElem?_eq_getElem (by omega)];rfl) (fun j hj=>by
  unfold World.frozen?;simp only [hb];rcases hfr with h0 | h0
  ·subst h0;simp
  ·have:=h0.1;simp;omega) h1
 simp only [Nat.add_zero] at hst;simp [Builtin.copy_,run_underlying hu,hk,Qp hs,hf,hst,hl]
theorem Qnr {T T2 e:TypeId} {x y:Operand} {r m sz pub:Nat} {cells:List PV} {l:List UInt8} (hx:Gv (st.ev x) (.osl r m)) (hl:st.ob r=.row cells e sz pub) (hy:Gv (st.ev y) (.p (Zj l))) (hT:X8 P T=some (e,1)) (hm:m<=cells.length) (hm0:0 < m) (hp:pub=0) (hd:Qxr d n=true) :
  Qd P E kp n ops ⟨some d,.call { callee:=.builtin .copy,args:=#[x,y],argTypes:=#[T,T2] },ty,ps,af,none⟩ st ((st.set r (.row (Qs cells 0 ((l.take m).map b8P)) e sz pub)).put d (.p (Qch (Qxs l.length m:Nat)))):=by
 refine Qd.val rfl fun a w ⟨φ,Pub,I,h0,hn,hsl⟩=>?_;subst hp;have h:=hx _ _ _ _ (Za (h:=st.heap) hsl x);have e1:=hy.v (Za (h:=st.heap) hsl y);obtain ⟨t1,t2⟩:=Zv hT;have hmin:(l.take m).length=Qxs l.length m:=by rw [QxH];exact QxM _ _
 have hR:=QfU (w:=w) (Pub:=Pub) (l.take m)
 have h1:∀ u∈(l.take m).map (fun c=>Value.int .u8 (c.toNat:Int)),u.oneCell'=true:=by
  intro u hu;rw [QxL] at hu;obtain ⟨c,_,rfl⟩:=hu;rfl
 have k:=I.own r;have hl':look OB.dead st.heap r=.row cells e sz 0:=hl;rw [hl'] at k;have hlen:(Builtin.lenOf (.string ⟨l.toArray⟩)).run P w=.ok l.length w:=rfl
 have hfc:(Builtin.firstCells 1 (Qxs l.length m) (.string ⟨l.toArray⟩)).run P w=.ok ((l.take m).map fun c=>Value.int .u8 (c.toNat:Int)).toArray w:=by
  simp [Builtin.firstCells];exact QxM _ _
 unfold RA at h;rcases h with ⟨b,c,e2,e3,e4⟩ | ⟨e2,rfl,e3⟩
 ·rcases k with ⟨k0,_⟩ | ⟨b',c',cur,fr,k1,⟨k2,k2'⟩,k3,k4,k5,k6,k7,k8⟩
  ·rw [e2] at k0;cases k0
  rw [e2] at k1;cases k1;have hlv:((l.take m).map fun c=>Value.int .u8 (c.toNat:Int)).length=Qxs l.length m:=by rw [Qxy];exact hmin
  have hmm:Qxs l.length m<=m:=Nat.min_le_right _ _;obtain ⟨I',H⟩:=I.storeRow (o:=0) hl' e2 hR h1 (Nat.zero_le _) (by rw [Qxy,hmin];omega);refine ⟨_,_,?_,Sat.put (u:=goInt (Qxs l.length m)) I' h0 hn (fun q=>QF H _ _ (fun _ _=>rfl) (hsl q)) hd (by unfold RA RP;rfl)⟩;have hr:=Qap (P:=P) (sT:=T2) (ty:=ty) (c:=c) t1 t2 k2 k2' hlen hfc hlv (by rw [hlv];omega) h1;simp only [execOp,resolve,invoke,builtin,Sem.run_bind,Sem.run_pure,Result.andThen_ok,Qxx,QxA,QxD,e1,e3,hr,hlv]
 ·omega
theorem Qpo {T T2 e:TypeId} {x y:Operand} {r m sz pub:Nat} {cells:List PV} {l:List UInt8} (hx:Gv (st.ev x) (.osl r m)) (hl:st.ob r=.row cells e sz pub) (hy:Gv (st.ev y) (.p (WS l))) (hT:X8 P T=some (e,1)) (hm:m<=cells.length) (hm0:0 < m) (hp:pub=0) (hd:Qxr d n=true) :
  Qd P E kp n ops ⟨some d,.call { callee:=.builtin .copy,args:=#[x,y],argTypes:=#[T,T2] },ty,ps,af,none⟩ st ((st.set r (.row (Qs cells 0 ((l.take m).map b8P)) e sz pub)).put d (.p (Qch (Qxs l.length m:Nat)))):=by
 refine Qd.val rfl fun a w ⟨φ,Pub,I,h0,hn,hsl⟩=>?_;subst hp;have h:=hx _ _ _ _ (Za (h:=st.heap) hsl x);have hu:=hy.p_ (Za (h:=st.heap) hsl y);unfold WS RP at hu;obtain ⟨ad,c0,e1,_,_,ha0,hu⟩:=hu;obtain ⟨t1,t2⟩:=Zv hT;have hmin:(l.take m).length=Qxs l.length m:=by rw [QxH];exact QxM _ _
 have hR:=QfU (w:=w) (Pub:=Pub) (l.take m)
 have h1:∀ u∈(l.take m).map (fun c=>Value.int .u8 (c.toNat:Int)),u.oneCell'=true:=by
  intro u hu;rw [QxL] at hu;obtain ⟨c,_,rfl⟩:=hu;rfl
 have k:=I.own r;have hl':look OB.dead st.heap r=.row cells e sz 0:=hl;rw [hl'] at k;have hlen:(Builtin.lenOf (.slice ad l.length c0)).run P w=.ok l.length w:=rfl;have hml:((l.take m).map fun c=>Value.int .u8 (c.toNat:Int)).length=Qxs l.length m * 1:=by rw [Qxy,hmin,Nat.mul_one]
 have hfc:(Builtin.firstCells 1 (Qxs l.length m) (.slice ad l.length c0)).run P w=.ok ((l.take m).map fun c=>Value.int .u8 (c.toNat:Int)).toArray w:=by
  cases ad with
  | none =>
   have hl0:l=[]:=by
    have:=ha0 rfl;exact Qxt (by omega)
   subst hl0;simp [Builtin.firstCells]
  | some ad =>
   refine run_firstCells_some w 1 _ ad _ _ _ hml fun j v hj=>?_;rcases hu with h0 | ⟨b,o,e5,hc⟩
   ·have hl0:l=[]:=Qxt h0;subst hl0;simp at hj
   ·cases e5;rw [Qxu,QxN] at hj;split at hj
    ·cases hg:l[j]? with
     | none=>rw [hg] at hj;cases hj
     | some q =>
      rw [hg] at hj;obtain ⟨u,k1,_,_,k4⟩:=Jd hc (i:=j) (x:=b8P q) (by rw [Qxu,hg];rfl);unfold b8P RP at k4;cases hj;rw [k4] at k1;rw [Addr.add_mid];exact k1
    ·cases hj
 unfold RA at h;rcases h with ⟨b,c,e2,e3,e4⟩ | ⟨e2,rfl,e3⟩
 ·rcases k with ⟨k0,_⟩ | ⟨b',c',cur,fr,k1,⟨k2,k2'⟩,k3,k4,k5,k6,k7,k8⟩
  ·rw [e2] at k0;cases k0
  rw [e2] at k1;cases k1;have hlv:((l.take m).map fun c=>Value.int .u8 (c.toNat:Int)).length=Qxs l.length m:=by rw [Qxy];exact hmin
  have hmm:Qxs l.length m<=m:=Nat.min_le_right _ _;obtain ⟨I',H⟩:=I.storeRow (o:=0) hl' e2 hR h1 (Nat.zero_le _) (by rw [Qxy,hmin];omega);refine ⟨_,_,?_,Sat.put (u:=goInt (Qxs l.length m)) I' h0 hn (fun q=>QF H _ _ (fun _ _=>rfl) (hsl q)) hd (by unfold RA RP;rfl)⟩;have hr:=Qap (P:=P) (sT:=T2) (ty:=ty) (c:=c) t1 t2 k2 k2' hlen hfc hlv (by rw [hlv];omega) h1;simp only [execOp,resolve,invoke,builtin,Sem.run_bind,Sem.run_pure,Result.andThen_ok,Qxx,QxA,QxD,e1,e3,hr,hlv]
 ·omega
theorem Qvt {x:Operand} {T:TypeId} {k:IntKind} {i r:Int} (hx:Gv (st.ev x) (.p (.v (.int k i)))) (hr:k.wrap (-i)=r) (hd:Qxr d n=true) :
  Qd P E kp n ops ⟨some d,.unOp .neg T x,ty,ps,af,none⟩ st (st.put d (.p (.v (.int k r)))) :=
 Qw _ rfl rfl hd fun a w φ Pub I hs=>by
  have e1:=hx.v (hs x);exact ⟨.int k r,by simp [execOp,e1,Op.unary,Op.intArith,hr],by simp [RA,RP]⟩
theorem QvT {T1 T2:TypeId} {x y:Operand} {i j:UInt8} (hx:Gv (st.ev x) (.p (b8P i))) (hy:Gv (st.ev y) (.p (.v (.int .u8 (j.toNat:Int))))) (hd:Qxr d n=true) (hty:P.underlying ty=some (.int .u8)) :
  Qd P E kp n ops ⟨some d,.call { callee:=.builtin .max,args:=#[x,y],argTypes:=#[T1,T2] },ty,ps,af,none⟩ st (st.put d (.p (b8P (if i < j then j else i)))) :=
 WI _ hd fun a w φ Pub I hR=>by
  have e1:=hx.v (hR x);have e2:=hy.v (hR y);refine ⟨.int .u8 ((if i < j then j else i).toNat:Int),?_,by simp [RA,RP]⟩
  have e:((if i < j then j else i).toNat:Int)=if (i.toNat:Int) < (j.toNat:Int) then (j.toNat:Int) else (i.toNat:Int):=by
   by_cases h:i < j
   ·rw [if_pos h,if_pos (by have:=QxI.1 h;omega)]
   ·rw [if_neg h,if_neg (by intro h2;exact h (QxI.2 (by omega)))]
  rw [e];simp only [builtin,Qxx,QxA,QxD,e1,e2];rfl
end
theorem bv8 (b:UInt8):Qxq 8 (b.toNat:Int)=b.toBitVec:=by
 apply BitVec.eq_of_toNat_eq;have:=b.toNat_lt;rw [BitVec.toNat_ofInt];simp;omega
theorem u8xor (b c:UInt8):IntKind.u8.wrap ((Qxq IntKind.u8.bits (b.toNat:Int) ^^^ Qxq IntKind.u8.bits (c.toNat:Int)).toNat:Int)=((b ^^^ c).toNat:Int):=by
 show IntKind.u8.wrap ((Qxq 8 (b.toNat:Int) ^^^ Qxq 8 (c.toNat:Int)).toNat:Int)=_;rw [bv8,bv8,<- UInt8.toBitVec_xor,u8w];have e:(b ^^^ c).toBitVec.toNat=(b ^^^ c).toNat:=rfl;rw [e,Qcq]
theorem u8or (b c:UInt8):IntKind.u8.wrap ((Qxq IntKind.u8.bits (b.toNat:Int) ||| Qxq IntKind.u8.bits (c.toNat:Int)).toNat:Int)=((b ||| c).toNat:Int):=by
 show IntKind.u8.wrap ((Qxq 8 (b.toNat:Int) ||| Qxq 8 (c.toNat:Int)).toNat:Int)=_;rw [bv8,bv8,<- UInt8.toBitVec_or,u8w];have e:(b ||| c).toBitVec.toNat=(b ||| c).toNat:=rfl;rw [e,Qcq]
theorem u8and (b c:UInt8):IntKind.u8.wrap ((Qxq IntKind.u8.bits (b.toNat:Int) &&& Qxq IntKind.u8.bits (c.toNat:Int)).toNat:Int)=((b &&& c).toNat:Int):=by
 show IntKind.u8.wrap ((Qxq 8 (b.toNat:Int) &&& Qxq 8 (c.toNat:Int)).toNat:Int)=_;rw [bv8,bv8,<- UInt8.toBitVec_and,u8w];have e:(b &&& c).toBitVec.toNat=(b &&& c).toNat:=rfl;rw [e,Qcq]
theorem Qpp (l:List UInt8) (i:Nat) (x:UInt8):Qs (l.map b8P) i [b8P x]=(l.set i x).map b8P:=by
 show (l.map b8P).set i (b8P x)=_;rw [List.map_set]
theorem QeY {α:Type} (xs l:List α) (h:xs.length<=l.length):Qs l 0 xs=xs++l.drop xs.length:=by
 have h2:=Yo xs 0 l (by omega);apply List.ext_getElem?;intro i;rcases Nat.lt_or_ge i xs.length with hi | hi
 ·have:=congrArg (fun q=>q[i]?) h2;simp only [Nat.zero_add,List.take_zero,List.nil_append] at this;rw [QxN,if_pos hi] at this;rw [this,List.getElem?_append_left hi]
 ·rw [List.getElem?_append_right hi,List.getElem?_drop,show xs.length+(i - xs.length)=i from by omega]
  have:∀ (xs:List α) (o:Nat) (l:List α) (i:Nat),o+xs.length<=i->(Qs l o xs)[i]? = l[i]?:=by
   intro xs
   induction xs with
   | nil=>intro o l i _;rfl
   | cons x xs ih =>
    intro o l i hi;show (Qs (l.set o x) (o+1) xs)[i]? = _;rw [ih (o+1) _ i (by simp at hi;omega),List.getElem?_set_ne (by simp at hi;omega)]
  exact this xs 0 l i (by omega)
end
section
open Go.RowKit
section
variable {P:Program} {ops:Array Oper} {Q:Exit->Act->World->Prop}
end
section
variable {P:Program} {E:Env} {kp:List Nat} {n:Nat} {ops:Array Oper} {Q:Exit->Act->World->Prop} {base st st':AS}
theorem AP.one (k i:Nat) {fuel:Nat} {o ok:Oper} {l1 l2:Array Bool} {st1 st1' st2 st2' stk:AS} (hr1:(Region.ready .any ops l1).all (fun j=>Qxv j i || Qxv j k)=true) (hr3:(Region.ready .any ops l1).isEmpty=false) (hr2:Region.ready .any ops l2=[i]) (hl:l1.setIfInBounds k true=l2) (hi:ops[i]? = some o) (hk:ops[k]? = some ok)
  (h1:Qd P E kp n ops o st1 st1') (h2:Qd P E kp n ops o st2 st2') (h3:Qd P E kp n ops ok st1 stk) (hw:Wk E kp n stk st2)
  (K:AD P E kp n ops Q (fuel+1) (l1.setIfInBounds i true) st1'/\AD P E kp n ops Q fuel (l2.setIfInBounds i true) st2'):AD P E kp n ops Q (fuel+2) l1 st1/\AD P E kp n ops Q (fuel+1) l2 st2:=by
 have second:AD P E kp n ops Q (fuel+1) l2 st2:=AD.one hr2 hi h2 K.2;refine ⟨fun a w hs=>⟨(fun h0=>by rw [h0] at hr3;cases hr3),fun j hj=>?_⟩,second⟩;have hj2:=List.all_eq_true.1 hr1 j hj;rw [QxB] at hj2;by_cases hji:j=i
 ·subst hji;exact wpOp_step hi fun K' hK=>h1 a w K' Q hs fun a' w' hs'=>hK _ _ (K.1 a' w' hs')
 ·have hjk:j=k:=by
   rcases hj2 with h | h
   ·exact absurd (Qxp h) hji
   ·exact Qxp h
  subst hjk;exact wpOp_step hk fun K' hK=>h3 a w K' Q hs fun a' w' hs'=>hK _ _ (by rw [hl];exact second a' w' (hw a' w' hs'))
end
end
section
open Go.RowKit
inductive CK where
 | i (k:IntKind) | b | s
def CK.ok:CK->Value->Prop
 | .i k,.int k' _=>k'=k
 | .b,.bool _=>True
 | .s,.string _=>True
 | _,_=>False
def okL:List CK->List Value->Prop
 | [],[]=>True
 | k::ks,u::us=>k.ok u/\okL ks us
 | _,_=>False
def Qbn:Value->Value->Bool
 | .int _ a,.int _ b=>a == b
 | .bool a,.bool b=>a == b
 | .string a,.string b=>a.toList == b.toList
 | _,_=>true
def QZ:List Value->List Value->Bool
 | a::a5s,b::bs=>Qbn a b && QZ a5s bs
 | _,_=>true
def Qhv (P:Program) (rec:TypeId->Option (List CK)):List Field->Nat->Option (List CK)
 | [],_=>some []
 | f::fs,o=>if f.name ≠ "_" /\ f.offset=o then (match rec f.type with
  | some ks=>if Zh P f.type=some ks.length then (Qhv P rec fs (o+ks.length)).map (ks ++ ·) else none
  | none=>none) else none
def Xd (P:Program):Nat->TypeId->Option (List CK)
 | 0,_=>none
 | d+1,t=>match P.underlying t with
  | some .bool=>some [.b]
  | some (.int k)=>some [.i k]
  | some .string=>some [.s]
  | some (.struct fs)=>if P.stoodInHeld t then none else Qhv P (Xd P d) fs.toList 0
  | _=>none
theorem YT:∀ {ks:List CK} {us:List Value},okL ks us->us.length=ks.length
 | [],[],_=>rfl
 | k::ks,u::us,h=>by simp [YT h.2]
 | [],_::_,h=>by cases h
 | _::_,[],h=>by cases h
theorem Qbo:∀ {ks ks':List CK} {us:List Value},okL (ks++ks') us->okL ks (us.take ks.length)/\okL ks' (us.drop ks.length)
 | [],ks',us,h=>by simpa [okL] using h
 | k::ks,ks',u::us,h=>by
  obtain ⟨h1,h2⟩:=Qbo (ks:=ks) (ks':=ks') (us:=us) h.2;exact ⟨⟨h.1,h1⟩,h2⟩
 | k::ks,ks',[],h=>by cases h
theorem QbX:∀ {a5s bs cs ds:List Value},a5s.length=bs.length->QZ (a5s++cs) (bs++ds)=(QZ a5s bs && QZ cs ds)
 | [],[],cs,ds,_=>by simp [QZ]
 | a::a5s,b::bs,cs,ds,h=>by
  simp only [List.cons_append,QZ,QbX (a5s:=a5s) (bs:=bs) (by simpa using h),Bool.and_assoc]
 | [],_::_,_,_,h=>by simp at h
 | _::_,[],_,_,h=>by simp at h
section
variable {P:Program} {w:World}
def Qck (P:Program) (t:TypeId) (us:List Value) (v:Value):Prop:=match Q4 P t with
 | some true=>v=.agg us.toArray
 | _=>us=[v]
theorem QlM {t:TypeId} {ks:List CK} {xs:List Value} {off d:Nat} (hk:Xd P d t=some ks) (hs:Zh P t=some ks.length) (hx:okL ks ((xs.drop off).take ks.length)) :
  ∃ v,(part t xs.toArray off).run P w=.ok v w/\Qck P t ((xs.drop off).take ks.length) v:=by
 cases d with
 | zero=>simp [Xd] at hk
 | succ d =>
  have hlen:=YT hx
  have one:∀ k:CK,ks=[k]->∃ v,xs[off]? = some v/\(xs.drop off).take ks.length=[v]:=fun k e=>by
   subst e;simp only [List.length_cons,List.length_nil,Nat.zero_add] at hlen ⊢
   cases hq:xs[off]? with
   | none =>
    rw [List.getElem?_eq_none_iff] at hq;rw [QxH,List.length_drop] at hlen;omega
   | some v =>
    obtain ⟨h1,h2⟩:=QxG.1 hq;refine ⟨v,rfl,?_⟩;rw [List.drop_eq_getElem_cons h1,h2];rfl
  unfold Xd at hk
  cases hu:P.underlying t with
  | none=>rw [hu] at hk;cases hk
  | some td =>
   rw [hu] at hk
   have row:td.isRow=false -> ∀ k:CK,ks=[k]->∃ v,(part t xs.toArray off).run P w=.ok v w/\Qck P t ((xs.drop off).take ks.length) v:=fun hr k e=>by
    obtain ⟨v,h1,h2⟩:=one k e;have ha:Q4 P t=some false:=by unfold Q4;rw [hu,Qxz,hr]
    refine ⟨v,?_,by unfold Qck;rw [ha];exact h2⟩;unfold part;rw [Sem.run_bind,Z7 ha];simp [h1]
   cases td <;> simp only [reduceCtorEq] at hk
   case bool=>exact row rfl _ (by cases hk;rfl)
   case int=>exact row rfl _ (by cases hk;rfl)
   case string=>exact row rfl _ (by cases hk;rfl)
   case struct fs =>
    have ha:Q4 P t=some true:=by unfold Q4;rw [hu];rfl
    refine ⟨.agg (xs.toArray.extract off (off+ks.length)),?_,?_⟩
    ·unfold part;rw [Sem.run_bind,Z7 ha];simp only [Result.andThen_ok,if_true,Sem.run_bind,Qp hs,Sem.run_pure]
    ·unfold Qck;rw [ha];show Value.agg _=Value.agg _;congr 1;apply Array.ext';simp [List.extract_eq_take_drop]
theorem Qdi:∀ (d:Nat) {t:TypeId} {ks:List CK},Xd P d t=some ks -> ∀ (D:Nat),d<=D -> ∀ {us vs:List Value} {a b:Value} {w:World},okL ks us->okL ks vs->Qck P t us a->Qck P t vs b ->
  (Op.equalIn D t a b).run P w=.ok (QZ us vs) w
 | 0,t,ks,hk,D,hD,us,vs,a,b,w,hu',hv',ha,hb=>by simp [Xd] at hk
 | d+1,t,ks,hk,D,hD,us,vs,a,b,w,hu',hv',ha,hb=>by
  obtain ⟨D,rfl⟩:∃ D',D=D'+1:=⟨D - 1,by omega⟩;unfold Xd at hk
  cases hu:P.underlying t with
  | none=>rw [hu] at hk;cases hk
  | some td =>
   rw [hu] at hk
   have cell:td.isRow=false -> ∀ k:CK,ks=[k]->us=[a]/\vs=[b]/\k.ok a/\k.ok b:=fun hr k e=>by
    have hg:Q4 P t=some false:=by unfold Q4;rw [hu,Qxz,hr]
    unfold Qck at ha hb;rw [hg] at ha hb;subst ha hb e;exact ⟨rfl,rfl,hu'.1,hv'.1⟩
   cases td <;> simp only [reduceCtorEq] at hk
   case bool =>
    cases hk;obtain ⟨rfl,rfl,h1,h2⟩:=cell rfl .b rfl;cases a <;> cases b <;> simp only [CK.ok] at h1 h2
    rw [run_equalIn_bool' w D t _ _ hu];simp [QZ,Qbn]
   case int k =>
    cases hk;obtain ⟨rfl,rfl,h1,h2⟩:=cell rfl (.i k) rfl;cases a <;> cases b <;> simp only [CK.ok] at h1 h2
    subst h1 h2;rw [run_equalIn_int w D t _ _ _ _ hu];simp [QZ,Qbn]
   case string =>
    cases hk;obtain ⟨rfl,rfl,h1,h2⟩:=cell rfl .s rfl;cases a <;> cases b <;> simp only [CK.ok] at h1 h2
    rw [run_equalIn_string w D t _ _ hu];simp [QZ,Qbn]
   case struct fs =>
    cases hp:P.stoodInHeld t with
    | true=>rw [hp] at hk;simp at hk
    | false =>
     rw [hp] at hk;simp only [Bool.false_eq_true,if_false] at hk;have hg:Q4 P t=some true:=by unfold Q4;rw [hu];rfl
     unfold Qck at ha hb;rw [hg] at ha hb;subst ha hb;have hfo:P.fieldsOf t=fs:=by unfold Program.fieldsOf;rw [hu]
     rw [run_equalIn_struct w D t _ _ (by rw [hfo];exact hu) hp,hfo]
     have key:∀ (l:List Field) (o:Nat) (ks:List CK),Qhv P (Xd P d) l o=some ks->okL ks (us.drop o)->okL ks (vs.drop o)->(Op.eqFields D us.toArray vs.toArray l).run P w=.ok (QZ (us.drop o) (vs.drop o)) w:=by
      intro l
      induction l with
      | nil =>
       intro o ks h k1 k2;cases h;have e1:=YT k1;rw [Qxt e1];simp [Op.eqFields,QZ]
      | cons f l ih =>
       intro o ks h k1 k2;unfold Qhv at h;split at h
       ·next hn =>
        split at h
        ·next kf hf =>
         split at h
         ·next hz =>
          cases hq:Qhv P (Xd P d) l (o+kf.length) with
          | none=>rw [hq] at h;cases h
          | some kr =>
           rw [hq] at h;cases h;obtain ⟨a1,a2⟩:=Qbo k1;obtain ⟨b1,b2⟩:=Qbo k2;rw [QxJ] at a2 b2;obtain ⟨va,p1,p2⟩:=QlM (w:=w) (xs:=us) (off:=o) hf hz a1;obtain ⟨vb,q1,q2⟩:=QlM (w:=w) (xs:=vs) (off:=o) hf hz b1;have hr:=Qdi d hf D (by omega) (w:=w) a1 b1 p2 q2;simp only [Op.eqFields,hn.1,ne_eq,not_false_eq_true,if_true,Sem.run_bind,hn.2,p1,q1,hr,Result.andThen_ok]
           have ec:QZ (us.drop o) (vs.drop o)=(QZ ((us.drop o).take kf.length) ((vs.drop o).take kf.length) && QZ (us.drop (o+kf.length)) (vs.drop (o+kf.length))):=by
            have l1:=YT a1;have l2:=YT b1;rw [<- QbX (by rw [l1,l2]),<- QxJ,<- QxJ,QxK,QxK]
           rw [ec]
           cases QZ ((us.drop o).take kf.length) ((vs.drop o).take kf.length) with
           | false=>simp
           | true=>simpa using ih (o+kf.length) kr hq a2 b2
         ·cases h
        ·cases h
       ·cases h
     simpa using key fs.toList 0 ks hk (by simpa using hu') (by simpa using hv')
end
def Xe:List AV->Option (List Value)
 | []=>some []
 | .p (.v u)::l=>(Xe l).map (u :: ·)
 | _=>none
theorem Qaq {w:World} {Pub:Nat->Nat->Prop} {φ:Qi}:∀ {l:List AV} {us vs:List Value},Xe l=some us->RAs w Pub φ l vs->vs=us
 | [],us,vs,h,k=>by cases h;unfold RAs at k;exact k
 | x::l,us,vs,h,k=>by
  unfold RAs at k;obtain ⟨u,us',rfl,k1,k2⟩:=k;unfold Xe at h;split at h
  ·next e=>cases e
  ·next u' l' e =>
   cases e
   cases hq:Xe l with
   | none=>rw [hq] at h;cases h
   | some q =>
    rw [hq] at h;cases h;unfold RA RP at k1;rw [Qaq hq k2,k1]
  ·cases h
section
variable {P:Program} {E:Env} {kp:List Nat} {n:Nat} {ops:Array Oper} {st:AS} {d:Nat} {ty:TypeId} {ps:String} {af:Array Edge}
theorem QsW {T T':TypeId} {x y:Operand} {xs ys:List AV} {us vs:List Value} {ks:List CK} {D:Nat} (hx:Gv (st.ev x) (.agg xs)) (hy:Gv (st.ev y) (.agg ys)) (h1:Xe xs=some us) (h2:Xe ys=some vs)
  (hD:D<=10000) (hk:Xd P D T=some ks) (ha:Q4 P T=some true) (hg:P.eqGuardType P.depth T=false) (o1:okL ks us) (o2:okL ks vs) (hd:Qxr d n=true) :
  Qd P E kp n ops ⟨some d,.binOp .eql T x y T',ty,ps,af,none⟩ st (st.put d (.p (.v (.bool (QZ us vs))))) :=
 Qw _ rfl rfl hd fun a w φ Pub I hR=>by
  have k1:=hx _ _ _ _ (hR x);have k2:=hy _ _ _ _ (hR y);unfold RA at k1 k2;obtain ⟨u,e1,k1⟩:=k1;obtain ⟨v,e2,k2⟩:=k2;rw [Qaq h1 k1] at e1;rw [Qaq h2 k2] at e2;refine ⟨.bool (QZ us vs),?_,by simp [RA,RP]⟩;have hr:=Qdi (w:=w) D hk 10000 hD o1 o2 (a:=.agg us.toArray) (b:=.agg vs.toArray) (by unfold Qck;rw [ha]) (by unfold Qck;rw [ha]);simp only [execOp,e1,e2,Sem.run_bind,run_eqGuard_agg w _ _ _ _ _ _ hg,Result.andThen_ok,run_eql_struct,hr,Sem.run_pure]
theorem QsX {T T':TypeId} {x y:Operand} {xs ys:List AV} {us vs:List Value} {ks:List CK} {D:Nat} (hx:Gv (st.ev x) (.agg xs)) (hy:Gv (st.ev y) (.agg ys)) (h1:Xe xs=some us) (h2:Xe ys=some vs)
  (hD:D<=10000) (hk:Xd P D T=some ks) (ha:Q4 P T=some true) (hg:P.eqGuardType P.depth T=false) (o1:okL ks us) (o2:okL ks vs) (hd:Qxr d n=true) :
  Qd P E kp n ops ⟨some d,.binOp .neq T x y T',ty,ps,af,none⟩ st (st.put d (.p (.v (.bool (!QZ us vs))))) :=
 Qw _ rfl rfl hd fun a w φ Pub I hR=>by
  have k1:=hx _ _ _ _ (hR x);have k2:=hy _ _ _ _ (hR y);unfold RA at k1 k2;obtain ⟨u,e1,k1⟩:=k1;obtain ⟨v,e2,k2⟩:=k2;rw [Qaq h1 k1] at e1;rw [Qaq h2 k2] at e2;refine ⟨.bool (!QZ us vs),?_,by simp [RA,RP]⟩;have hr:=Qdi (w:=w) D hk 10000 hD o1 o2 (a:=.agg us.toArray) (b:=.agg vs.toArray) (by unfold Qck;rw [ha]) (by unfold Qck;rw [ha]);simp only [execOp,e1,e2,Sem.run_bind,run_eqGuard_agg w _ _ _ _ _ _ hg,Result.andThen_ok,run_neq_struct,hr,Sem.run_pure]
theorem Qvu {x:Operand} {T:TypeId} {k:IntKind} {i r:Int} (hx:Gv (st.ev x) (.p (.v (.int k i)))) (hr:k.wrap ((Qxq k.bits (if k.signed then -1 else k.max) ^^^ Qxq k.bits i).toNat:Int)=r) (hd:Qxr d n=true) :
  Qd P E kp n ops ⟨some d,.unOp .xor T x,ty,ps,af,none⟩ st (st.put d (.p (.v (.int k r)))) :=
 Qw _ rfl rfl hd fun a w φ Pub I hs=>by
  have e1:=hx.v (hs x);exact ⟨.int k r,by simp only [execOp,e1,Op.unary,Op.intBits,hr];simp,by simp [RA,RP]⟩
theorem beqS (l m:List UInt8):(((⟨l.toArray⟩:ByteArray).toList == (⟨m.toArray⟩:ByteArray).toList))=decide (l=m):=by
 rw [W6,W6,YE]
theorem QvU {T1 T2:TypeId} {x y:Operand} {l m:List UInt8} (hx:Gv (st.ev x) (.p (Zj l))) (hy:Gv (st.ev y) (.p (Zj m))) (hd:Qxr d n=true) :
  Qd P E kp n ops ⟨some d,.call { callee:=.builtin .min,args:=#[x,y],argTypes:=#[T1,T2] },ty,ps,af,none⟩ st (st.put d (.p (Zj (bif Op.bytesLess l m || decide (l=m) then l else m)))) :=
 WI _ hd fun a w φ Pub I hR=>by
  have e1:=hx.v (hR x);have e2:=hy.v (hR y);refine ⟨.string ⟨(bif Op.bytesLess l m || decide (l=m) then l else m).toArray⟩,?_,by simp [RA,RP]⟩;simp only [builtin,Qxx,QxA,QxD,e1,e2]
  have h:(Builtin.min2 (.string ⟨l.toArray⟩) (.string ⟨m.toArray⟩)).run P w=.ok (.string ⟨(bif Op.bytesLess l m || decide (l=m) then l else m).toArray⟩) w:=by
   simp only [Builtin.min2,Op.stringOp,W6,YE];cases hq:(Op.bytesLess l m || decide (l=m)) <;> simp [asBool,hq]
  simp only [Builtin.min_,List.foldlM_cons,List.foldlM_nil,Sem.run_bind,h,Result.andThen_ok,Sem.run_pure]
theorem QvV {T1 T2:TypeId} {x y:Operand} {l m:List UInt8} (hx:Gv (st.ev x) (.p (Zj l))) (hy:Gv (st.ev y) (.p (Zj m))) (hd:Qxr d n=true) :
  Qd P E kp n ops ⟨some d,.call { callee:=.builtin .max,args:=#[x,y],argTypes:=#[T1,T2] },ty,ps,af,none⟩ st (st.put d (.p (Zj (bif Op.bytesLess l m then m else l)))) :=
 WI _ hd fun a w φ Pub I hR=>by
  have e1:=hx.v (hR x);have e2:=hy.v (hR y);refine ⟨.string ⟨(bif Op.bytesLess l m then m else l).toArray⟩,?_,by simp [RA,RP]⟩;simp only [builtin,Qxx,QxA,QxD,e1,e2]
  have h:(Builtin.max2 (.string ⟨l.toArray⟩) (.string ⟨m.toArray⟩)).run P w=.ok (.string ⟨(bif Op.bytesLess l m then m else l).toArray⟩) w:=by
   simp only [Builtin.max2,Op.stringOp,W6,YE];cases hq:(Op.bytesLess l m) <;> simp [asBool,hq]
  simp only [Builtin.max_,List.foldlM_cons,List.foldlM_nil,Sem.run_bind,h,Result.andThen_ok,Sem.run_pure]
theorem QsY {T T':TypeId} {x y:Operand} {l m:List UInt8} (hx:Gv (st.ev x) (.p (Zj l))) (hy:Gv (st.ev y) (.p (Zj m))) (hd:Qxr d n=true) :
  Qd P E kp n ops ⟨some d,.binOp .gtr T x y T',ty,ps,af,none⟩ st (st.put d (.p (VF (!(Op.bytesLess l m || decide (l=m)))))):=XF hx hy hd fun w=>by
 simp only [eqGuard,binOp,Op.stringOp,W6,YE];rfl
theorem QsZ {T T':TypeId} {x y:Operand} {l m:List UInt8} (hx:Gv (st.ev x) (.p (Zj l))) (hy:Gv (st.ev y) (.p (Zj m))) (hd:Qxr d n=true) :
  Qd P E kp n ops ⟨some d,.binOp .geq T x y T',ty,ps,af,none⟩ st (st.put d (.p (VF (!Op.bytesLess l m)))):=XF hx hy hd fun w=>by
 simp only [eqGuard,binOp,Op.stringOp,W6,YE];rfl
def Qpq (b:Bool) (x:AV):Prop:=∀ w Pub φ u,RA w Pub φ x u->∃ p:Option Addr,u=.pointer p/\p.isNone=b
theorem Qs0 {T T' e:TypeId} {x y:Operand} {b:Bool} (hx:Qpq b (st.ev x)) (hy:Gv (st.ev y) (.p (.v (.pointer none)))) (hu:P.underlying T=some (.pointer e)) (hd:Qxr d n=true) :
  Qd P E kp n ops ⟨some d,.binOp .eql T x y T',ty,ps,af,none⟩ st (st.put d (.p (.v (.bool b)))) :=
 Qw _ rfl rfl hd fun a w φ Pub I hR=>by
  obtain ⟨p,e1,hp⟩:=hx _ _ _ _ (hR x);have e2:=hy.v (hR y);refine ⟨.bool b,?_,by simp [RA,RP]⟩;have hpe:P.pointee T=e:=by unfold Program.pointee;rw [hu]
  simp only [execOp,e1,e2,eqGuard];simp [run_eql_pointer_nil w T p (by rw [hpe];exact hu),hp]
theorem Qs1 {T T' e:TypeId} {x y:Operand} {b:Bool} (hx:Qpq b (st.ev x)) (hy:Gv (st.ev y) (.p (.v (.pointer none)))) (hu:P.underlying T=some (.pointer e)) (hd:Qxr d n=true) :
  Qd P E kp n ops ⟨some d,.binOp .neq T x y T',ty,ps,af,none⟩ st (st.put d (.p (.v (.bool (!b))))) :=
 Qw _ rfl rfl hd fun a w φ Pub I hR=>by
  obtain ⟨p,e1,hp⟩:=hx _ _ _ _ (hR x);have e2:=hy.v (hR y);refine ⟨.bool (!b),?_,by simp [RA,RP]⟩;have hpe:P.pointee T=e:=by unfold Program.pointee;rw [hu]
  simp only [execOp,e1,e2,eqGuard];simp [run_neq_pointer_nil w T p (by rw [hpe];exact hu),hp]
theorem Xf (w:World) (a:Addr) (m k:Nat) (hk:k≠a.block):(w.freeze a m).heap[k]? = w.heap[k]?:=by
 unfold World.freeze;split
 ·rfl
 ·simp only [Qxw];rw [if_neg (Ne.symm hk)]
theorem XI {w:World} {a:Addr} {m:Nat} {cur:Array Value} {t:TypeId} {lo hi:Nat} (hb:w.heap[a.block]? = some (.cells cur t (lo,hi))) (hm:m≠0) :
  (w.freeze a m).heap[a.block]? = some (.cells cur t (if lo == hi then (a.off,a.off+m) else (min lo a.off,max hi (a.off+m)))):=by
 unfold World.freeze;rw [if_neg hm];simp only [Qxw,if_true,hb,Qxz]
theorem Qhw (w:World) (a:Addr) (m:Nat):(w.freeze a m).heap.size=w.heap.size:=by
 unfold World.freeze;split
 ·rfl
 ·simp
theorem Qhx (w:World) (a:Addr) (m:Nat) (k i:Nat):(w.freeze a m).cell? ⟨k,i,none⟩=w.cell? ⟨k,i,none⟩:=by
 unfold World.cell?;by_cases hk:k=a.block
 ·subst hk;by_cases hm:m=0
  ·unfold World.freeze;rw [if_pos hm]
  ·cases hb:w.heap[a.block]? with
   | none =>
    have:(w.freeze a m).heap[a.block]? = none:=by
     unfold World.freeze;rw [if_neg hm];simp only [Qxw,if_true,hb,Option.map_none]
    simp only [this]
   | some o =>
    cases o with
    | cells cur t fr=>rw [XI (lo:=fr.1) (hi:=fr.2) hb hm]
    | _ =>
     have:(w.freeze a m).heap[a.block]? = w.heap[a.block]?:=by
      unfold World.freeze;rw [if_neg hm];simp only [Qxw,if_true,hb,Qxz]
     rw [this,hb]
 ·rw [Xf _ _ _ _ hk]
theorem Qdj (w:World) (a:Addr) (m:Nat):(w.freeze a m).os=w.os/\(w.freeze a m).tape=w.tape/\(w.freeze a m).output=w.output:=by
 unfold World.freeze;split <;> exact ⟨rfl,rfl,rfl⟩
theorem Inv.touch {φ:Qi} {Pub:Nat->Nat->Prop} {h:List (Nat×OB)} {w w':World} (I:Inv E kp φ Pub h w) {r b c:Nat} (ha:(look OB.dead h r).alive=true) (hr:φ r=some (b,c)) (s1:w'.os=w.os) (s2:w'.tape=w.tape) (s3:w'.output=w.output)
  (hsz:w'.heap.size=w.heap.size) (hoth:∀ k,k≠b->w'.heap[k]? = w.heap[k]?) (hcell:∀ k i,w'.cell? ⟨k,i,none⟩=w.cell? ⟨k,i,none⟩) (hob:Hp w' Pub φ r (look OB.dead h r)):Inv E kp φ Pub h w':=by
 have hm:=I.mine r b c ha hr;have H:Adv w Pub w' Pub:=fun k i hp=>⟨hp,hcell k i⟩
 refine I.next s1 s2 s3 (by rw [hsz];exact QxO _) (fun k hk hA=>hoth k (fun e=>by
   subst e;rcases hm with hm | hm
   ·omega
   ·exact hA hm)) H (fun _ _ hp=>.inl hp) (fun k i hk=>by rw [hsz];exact I.publ k i hk) (fun q hq=>?_) (fun q k c' hq hk=>I.mine q k c' hq hk) (fun q q' k c1 c2 hq hq' hk hk'=>I.inj q q' k c1 c2 hq hq' hk hk') (fun _ _=>rfl)
 by_cases e:r=q
 ·subst e;exact hob
 ·refine ZO H (fun k c' hk=>⟨hoth k (fun e2=>?_),fun i hi=>hi⟩) rfl (fun _ _=>rfl) (I.own q);subst e2;exact e (I.inj r q _ _ _ ha hq hr hk)
theorem Qns {T e:TypeId} {x:Operand} {r m sz pub:Nat} {cells:List PV} {t:TypeId} (hx:Gv (st.ev x) (.osl r m)) (hl:st.ob r=.row cells t sz pub) (h1:P.underlying T=some (.slice e)) (h3:P.underlying e=some (.int .u8)) (hm:0 < m) (ht:t=5) (hd:Qxr d n=true) :
  Qd P E kp n ops ⟨some d,.convert T T x,ty,ps,af,none⟩ st (st.put d (.osl r m)):=by
 refine Qd.val rfl fun a w ⟨φ,Pub,I,h0,hn,hsl⟩=>?_;have hv:=hx _ _ _ _ (Za (h:=st.heap) hsl x);have hv':=hv;unfold RA at hv;rcases hv with ⟨b,c,e0,ev,hc⟩ | ⟨_,hz,_⟩
 ·have hl':look OB.dead st.heap r=.row cells t sz pub:=hl;have k:=I.own r;rw [hl'] at k;rcases k with ⟨k0,_⟩ | ⟨b',c',cur,fr,k1,⟨k2,k2'⟩,k3,k4,k5,k6,k7,k8⟩
  ·rw [e0] at k0;cases k0
  ·rw [e0] at k1;cases k1;obtain ⟨lo,hi⟩:=fr;obtain ⟨s1,s2,s3⟩:=Qdj w ⟨b,cur.size,none⟩ 1;have hb2:=XI (a:=⟨b,cur.size,none⟩) k2 (m:=1) (by decide);have hcell:∀ k i,(w.freeze ⟨b,cur.size,none⟩ 1).cell? ⟨k,i,none⟩=w.cell? ⟨k,i,none⟩:=fun k i=>Qhx w _ 1 k i;have H:Adv w Pub (w.freeze ⟨b,cur.size,none⟩ 1) Pub:=fun k i hp=>⟨hp,hcell k i⟩
   have I':Inv E kp φ Pub st.heap (w.freeze ⟨b,cur.size,none⟩ 1):=by
    refine I.touch (by rw [hl'];rfl) e0 s1 s2 s3 (Qhw _ _ _) (fun k hk=>Xf w _ 1 k hk) hcell ?_;rw [hl'];refine .inr ⟨b,c,cur,_,e0,⟨hb2,?_⟩,k3,k4,k5,WE H _ _ k6,k7,k8⟩;unfold Qhb at k2' ⊢;by_cases hq:(lo == hi)=true
    ·rw [if_pos hq];exact .inr ⟨QxO _,ht⟩
    ·rw [if_neg hq];rcases k2' with k2' | k2'
     ·cases k2';simp at hq
     ·exact .inr ⟨by have:=k2'.1;simp only at this ⊢;omega,ht⟩
   refine ⟨a.eval x,_,?_,Sat.put I' h0 hn (fun s=>QF H _ _ (fun _ _=>rfl) (hsl s)) hd (QF H _ _ (fun _ _=>rfl) hv')⟩;have hsh:w.shape? b=some (t,cur.size):=by unfold World.shape?;rw [k2]
   simp only [execOp,ev,convert,Sem.run_bind,run_underlying h1,Result.andThen_ok,run_underlying h3,beq_self_eq_true,markStringish,run_shape,hsh,run_freeze,Sem.run_pure]
 ·omega
theorem Qnt {T:TypeId} {parts:List (Nat×Operand)} {m s:Nat} {z:List Value} {out:List AV} (hT:Qhf P T=some (m,s)) (hz:QjM P T=some z) (hf:Y8 ((List.range m).map fun i=>(i * s,s)) (Qcg z) (parts.map fun p=>(p.1,st.ev p.2))=some out) (hd:Qxr d n=true) :
  Qd P E kp n ops ⟨some d,.build T parts.toArray,ty,ps,af,none⟩ st (st.put d (.agg out)) :=
 Qw _ rfl rfl hd fun a w φ Pub I hR=>by
  obtain ⟨e,hu,hs⟩:=Qvl hT;obtain ⟨v,hv,hc⟩:=Xt hz w
  obtain ⟨cur',h1,h2⟩:=QcZ (place:=fun i=>some (i * s,s)) (a:=a) (fun i os hos=>by
   rw [Qxu] at hos
   cases hq:(List.range m)[i]? with
   | none=>rw [hq] at hos;cases hos
   | some j =>
    rw [hq] at hos;obtain ⟨_,e⟩:=QxG.1 hq;rw [List.getElem_range] at e
    subst e;exact hos) (us:=parts.map fun p=>(p.1,a.eval p.2)) (cur:=z.toArray) hf (XE z) (by simp) (fun j i x hj=>by
   rw [Qxu] at hj ⊢
   cases hq:parts[j]? with
   | none=>rw [hq] at hj;cases hj
   | some p =>
    rw [hq] at hj;simp only [Qxz,Option.some.injEq,Prod.mk.injEq] at hj;obtain ⟨rfl,rfl⟩:=hj
    exact ⟨a.eval p.2,rfl,hR p.2⟩)
  refine ⟨.agg cur',?_,by unfold RA;exact ⟨cur'.toList,by simp,h2⟩⟩
  have hr:(Instr.build T (parts.toArray.map fun (i,x)=>(i,a.eval x))).run P w=.ok (.agg cur') w:=by
   unfold Instr.build;simp only [Sem.run_bind,hv,hc,Result.andThen_ok,run_underlying hu,Qp hs];have e:(parts.toArray.map fun (p:Nat×Operand)=>(p.1,a.eval p.2)).toList=parts.map fun p=>(p.1,a.eval p.2):=by simp
   rw [e,h1];rfl
  simp only [execOp];rw [Sem.run_bind];exact (by rw [hr];rfl)
end
end
end Go.Proofs.YtcebndkiagbddaaGreatDoor
