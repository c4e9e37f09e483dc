/- A part of the proof: contracts of functions and what they stand on. Written shorter and merged by a program (pack.py). -/
import Derived.Test.YtcebndkiagbddaaGreatDoorK10
set_option linter.unusedVariables false
set_option linter.unusedSimpArgs false
set_option maxRecDepth 100000
set_option maxHeartbeats 4000000
open Bool renaming and_eq_true -> Qxo, or_eq_true -> Qxr, not_eq_true' -> Qxx, false_or -> Qxy
open List renaming mem_cons_of_mem -> Qxp, mem_cons -> Qxq, cons_append -> Qxs, mem_append_right -> Qxt, mem_append_left -> Qxu, append_assoc -> Qxv, range -> Qxw
open Nat renaming beq_refl -> Qxz, le_refl -> QxA
namespace Go.Proofs.YtcebndkiagbddaaGreatDoor
section
open Go.RowKit
def Ct (P:Program) (f:FuncId) (hin:List (Nat×EB)) (a5s:List EV) (hout:List (Nat×EB)) (res:EV):Prop:=Ev P f (obs hin) (avL a5s) (obs hout) res.av
def dfL (g:EV->Option (List Prop×EV×List (Nat×EB))):List EV->Option (List Prop×List EV×List (Nat×EB))
 | []=>some ([],[],[])
 | x::xs=>match g x with
  | some (C,z,F)=>match dfL g xs with
   | some (C',l,F')=>some (C++C',z::l,F++F')
   | none=>none
  | none=>none
def QpW (bs:List (Nat×EB)):List Nat->Option (List EV×List (Nat×EB))
 | []=>some ([],[])
 | q::qs=>match ob_ bs q with
  | .rz m sz f T _=>match QpW bs qs with
   | some (l,F)=>some (.lz m sz f::l,(q,.rz m sz f T (m * sz))::F)
   | none=>none
  | _=>none
def lnE:EV->Nat
 | .lz m _ _=>m
 | _=>0
def raC (kl:List EV) (x:EV):EV:=match x with
 | .osl q k=>kl.getD q .any
 | x=>x
def QtG (kl:List EV) (x:EV):Prop:=match x with
 | .osl q k=>q < kl.length/\lnE (kl.getD q .any)=k
 | x=>x.sh=true
def raE (bs:List (Nat×EB)) (r n m sz:Nat) (f:Nat->Nat->EV) (T:TypeId) (ns:List Nat):Option (List Prop×EV×List (Nat×EB)) :=
 match QpW bs ns with
 | some (kl,F)=>some ([n=m,∀ i,i < m -> ∀ j,j < sz->QtG kl (f i j)],.lz m sz (fun a b=>raC kl (f a b)),(r,.rz m sz (fun a b=>raC kl (f a b)) T (m * sz))::F)
 | none=>none
def dfE (bs:List (Nat×EB)):Nat->EV->Option (List Prop×EV×List (Nat×EB))
 | 0,_=>none
 | k+1,x=>match x with
  | .own r off=>match ob_ bs r with
   | .box cells t=>match dfL (dfE bs k) cells with
    | some (C,cs,F)=>bif shL cs && QL cs then some (C,.pp cs off,(r,.row cs t cs.length cs.length)::F) else none
    | none=>none
   | .row cells T sz _=>some ([],.pp cells off,[(r,.row cells T sz cells.length)])
   | _=>none
  | .osl r n=>match ob_ bs r with
   | .rb l T _=>some ([n=l.length],.bs l,[(r,.rb l T l.length)])
   | .rz m sz f T _=>some ([n=m],.lz m sz f,[(r,.rz m sz f T (m * sz))])
   | .row cells T sz _=>some ([],.sl cells n,[(r,.row cells T sz cells.length)])
   | .ra m sz f T ns=>raE bs r n m sz f T ns
   | _=>none
  | .agg l=>match dfL (dfE bs k) l with
   | some (C,cs,F)=>some (C,.agg cs,F)
   | none=>none
  | x=>some ([],x,[])
def ndB (bs:List (Nat×EB)):List (Nat×EB)->Bool
 | []=>true
 | (r,_)::l=>(match ob_ bs r with | .box _ _=>!QD r l | .ra _ _ _ _ _=>!QD r l | _=>true) && ndB bs l
theorem Qgi {bs:List (Nat×EB)}:∀ {l m:List (Nat×EB)},ndB bs (l++m)=true->ndB bs m=true
 | [],_,h=>h
 | (r,x)::l,m,h=>by
  simp only [Qxs,ndB,Qxo] at h;exact Qgi h.2
section
variable (hp:List (Nat×EB))
mutual
def cvE (x:EV):EV->Option (List Prop×EV×List (Nat×EB))
 | .osl _ _=>some ([],x,[])
 | .own _ _=>some ([],x,[])
 | .mref _=>some ([],x,[])
 | .any=>some ([],x,[])
 | .agg ys=>match x with
  | .agg xs=>match cvL xs ys with
   | some (C,l,F)=>some (C,.agg l,F)
   | none=>none
  | _=>none
 | .tup ys=>match x with
  | .tup xs=>match cvL xs ys with
   | some (C,l,F)=>some (C,.tup l,F)
   | none=>none
  | _=>none
 | _=>match x with
  | .osl r n=>match ob_ hp r with
   | .rb l T _=>some ([n=l.length],.bs l,[(r,.rb l T l.length)])
   | .rz m sz f T _=>some ([n=m],.lz m sz f,[(r,.rz m sz f T (m * sz))])
   | .row cells T sz _=>some ([],.sl cells n,[(r,.row cells T sz cells.length)])
   | .ra m sz f T ns=>raE hp r n m sz f T ns
   | _=>none
  | .own r off=>dfE hp 12 (.own r off)
  | x=>some ([],x,[])
def cvL (xs:List EV):List EV->Option (List Prop×List EV×List (Nat×EB))
 | []=>match xs with
  | []=>some ([],[],[])
  | _=>none
 | y::ys=>match xs with
  | x::xs=>match cvE x y with
   | some (C,z,F)=>match cvL xs ys with
    | some (C',l,F')=>some (C++C',z::l,F++F')
    | none=>none
   | none=>none
  | []=>none
end
end
def Qgj (vs:List (Nat×EV)):List Operand->List EV
 | []=>[]
 | x::xs=>Ql vs x::Qgj vs xs
def QhR (vs:List (Nat×EV)) (ce:List EV):List Operand->List EV
 | []=>ce
 | x::xs=>Ql vs x::QhR vs ce xs
section
variable (tab:TT) (vs:List (Nat×EV)) (bs:List (Nat×EB)) (d:Nat)
def Ql0 (args:List Operand) (ce:List EV) (ys:List EV):Option (List Prop×List EV×List (Nat×EB)) :=
 match cvL bs (QhR vs ce args) ys with
 | some (C,l,F)=>bif ndB bs F then some (C,l,F) else none
 | none=>none
def nmC (d q:Nat):Nat:=1000000+1000 * d+q
def QnH (d:Nat) (σ:List (Nat×Nat)):List (Nat×EB)->List (Nat×Nat)
 | []=>σ
 | (q,_)::h=>bif Q6 q σ then QnH d σ h else QnH d ((q,nmC d q)::σ) h
def ndK:List (Nat×EB)->Bool
 | []=>true
 | (q,_)::h=>!QD q h && ndK h
def Qgk (hin hout:List (Nat×EB)) (a5s:List EV) (res:EV) (σ τ:List (Nat×Nat)):Bool :=
 WH (obs hin) (obs hin) && W3 τ && Vf τ (avL a5s) && Y4 τ (obs hin) && Y4 τ (obs hout) && res.av.inD τ && WH (obs hout) (obs hout) && res.av.inH (obs hout) && ndK hin &&
 (σ.all fun p=>(look EB.dead hin p.1).alive) && (τ.all fun p=>(look EB.dead hin p.1).alive || ((look EB.dead hout p.1).alive && !(ob_ bs p.2).alive))
def Qb1 (dst:Option Nat) (args:List Operand) (ce:List EV) (hin:List (Nat×EB)) (a5s:List EV) (hout:List (Nat×EB)) (res:EV):Option RS :=
 match Ql0 vs bs args ce a5s with
 | none=>none
 | some (C0,l,F)=>match JD [] l a5s with
  | none=>none
  | some (C1,τ)=>match QeM (F++bs) τ hin with
   | none=>none
   | some (C2,σ)=>match QnH (dst.getD 999) σ hout with
    | τ'=>bif Qgk bs hin hout a5s res σ τ' then some ⟨C0++(C1++C2),(match dst with | some x=>[(x,res.sg τ')] | none=>[]),QhO τ' hout++(QhP τ' hin++F)⟩ else none
end
section
variable {P:Program} {E:Env} {kp:List Nat} {n:Nat} {ops:Array Oper} {d:Nat} {ty:TypeId} {ps:String} {af:Array Edge}
variable {tab:TT} {vs:List (Nat×EV)} {bs:List (Nat×EB)} {st:ES}
def Frz (bs:List (Nat×EB)) (hp:List (Nat×EB)):Prop :=
 ∀ r eb',(r,eb')∈hp->∃ cells T sz,eb'.ob=.row cells T sz cells.length/\((∃ p,(ob_ bs r).ob=.row cells T sz p)\/(∃ avs,(ob_ bs r).ob=.box avs T)\/∃ avs ns,(ob_ bs r).ob=.ra avs T sz ns)
theorem Ql1 {α:Type} {d:α}:∀ (l m:List (Nat×α)) (s:Nat),look d (l++m) s=look d m s\/(s,look d (l++m) s)∈l
 | [],m,s=>.inl rfl
 | (k,x)::l,m,s=>by
  rw [Qxs,Qb];split
  ·next e=>subst e;exact .inr (by simp)
  ·rcases Ql1 l m s with h | h
   ·exact .inl h
   ·exact .inr (Qxp _ h)
theorem Qgl:∀ {h:List (Nat×EB)} {r:Nat} {x:OB},(r,x)∈obs h->∃ eb,(r,eb)∈h/\eb.ob=x
 | (k,y)::h,r,x,hm=>by
  simp only [obs,Qxq] at hm;rcases hm with e | hm
  ·cases e;exact ⟨y,by simp,rfl⟩
  ·obtain ⟨eb,h1,h2⟩:=Qgl hm;exact ⟨eb,Qxp _ h1,h2⟩
theorem Frz.look {hp:List (Nat×EB)} (F:Frz bs hp) (S:Sub vs bs st) {r:Nat} {cells:List PV} {T:TypeId} {sz p:Nat} (h:(ob_ bs r).ob=.row cells T sz p) :
  ∃ p',look OB.dead (obs hp++obs st.heap) r=.row cells T sz p':=by
 rcases Ql1 (d:=OB.dead) (obs hp) (obs st.heap) r with e | e
 ·refine ⟨p,?_⟩;rw [e];have:=S.ob (r:=r) rfl (by intro e2;rw [e2] at h;cases h);rw [h] at this;exact this
 ·obtain ⟨eb,h1,h2⟩:=Qgl e;obtain ⟨c,T',s',k2,⟨p',k1⟩ | ⟨avs,k1⟩ | ⟨avs,ns,k1⟩⟩:=F r eb h1
  ·rw [h] at k1;cases k1;exact ⟨_,by rw [<- h2,k2]⟩
  ·rw [h] at k1;cases k1
  ·rw [h] at k1;cases k1
theorem Ql2 (vs:List (Nat×EV)):∀ args:List Operand,Qgj vs args=args.map (Ql vs)
 | []=>rfl
 | x::xs=>by simp [Qgj,Ql2 vs xs]
end
section
variable {E:Env} {kp:List Nat} {st:ES} {vs:List (Nat×EV)} {bs:List (Nat×EB)} {w:World} {φ:Qi} {Pub0:Nat->Nat->Prop}
theorem XM (S:Sub vs bs st) {r m:Nat} {cells:List PV} {T:TypeId} {sz p:Nat} {eb':EB} {F:List (Nat×EB)} {u:Value} {y:EV} (fr:Frz bs F) {Pub:Nat->Nat->Prop} (I:Inv E kp φ Pub (obs (F++st.heap)) w) (ho:(ob_ bs r).ob=.row cells T sz p) (he:eb'.ob=.row cells T sz cells.length)
  (hy:y.av=.p (.sl cells m)) (hu:RA w Pub φ (.osl r m) u):Frz bs ((r,eb')::F)/\∃ Pub',Inv E kp φ Pub' (obs ((r,eb')::F++st.heap)) w/\Adv w Pub w Pub'/\RA w Pub' φ y.av u:=by
 have I2:Inv E kp φ Pub (obs F++obs st.heap) w:=by rw [<- Q1];exact I
 obtain ⟨p',hl⟩:=fr.look S ho;obtain ⟨Pub',I',H,k1,k2⟩:=I2.share hl (.inl rfl);refine ⟨fun r' e' hm=>?_,Pub',?_,H,?_⟩
 ·rcases Qxq.1 hm with h | h
  ·cases h;exact ⟨_,_,_,he,.inl ⟨_,ho⟩⟩
  ·exact fr r' e' h
 ·show Inv E kp φ Pub' ((r,eb'.ob)::obs (F++st.heap)) w;rw [he,Q1];exact I'
 ·have k:=QeU k1 k2 (QF H _ _ (fun _ _=>rfl) hu);rw [hy];simpa [shA] using k
theorem QtH (S:Sub vs bs st) {r off:Nat} {cells:List PV} {T:TypeId} {sz p:Nat} {eb':EB} {F:List (Nat×EB)} {u:Value} {y:EV} (fr:Frz bs F) {Pub:Nat->Nat->Prop} (I:Inv E kp φ Pub (obs (F++st.heap)) w) (ho:(ob_ bs r).ob=.row cells T sz p) (he:eb'.ob=.row cells T sz cells.length)
  (hy:y.av=.p (.pp cells off)) (hu:RA w Pub φ (EV.own r off).av u):Frz bs ((r,eb')::F)/\∃ Pub',Inv E kp φ Pub' (obs ((r,eb')::F++st.heap)) w/\Adv w Pub w Pub'/\RA w Pub' φ y.av u:=by
 have I2:Inv E kp φ Pub (obs F++obs st.heap) w:=by rw [<- Q1];exact I
 obtain ⟨p',hl⟩:=fr.look S ho;obtain ⟨Pub',I',H,k1,k2⟩:=I2.share hl (.inl rfl);refine ⟨fun r' e' hm=>?_,Pub',?_,H,?_⟩
 ·rcases Qxq.1 hm with h | h
  ·cases h;exact ⟨_,_,_,he,.inl ⟨_,ho⟩⟩
  ·exact fr r' e' h
 ·show Inv E kp φ Pub' ((r,eb'.ob)::obs (F++st.heap)) w;rw [he,Q1];exact I'
 ·have k:=QeU k1 k2 (QF H _ _ (fun _ _=>rfl) hu);rw [hy];simpa [shA,EV.av] using k
theorem Jk {r:Nat}:∀ {F:List (Nat×EB)},QD r (obs F)=QD r F
 | []=>rfl
 | (q,x)::F=>by simp only [obs,QD,Jk (F:=F)]
theorem QhS (S:Sub vs bs st) {r:Nat} {cells:List EV} {t:TypeId} {F:List (Nat×EB)} (ho:ob_ bs r=.box cells t) (hk:QD r F=false):look OB.dead (obs F++obs st.heap) r=.box (avL cells) t:=by
 rw [Qv,if_neg (by rw [Jk,hk];simp)];have k:=S.ob (r:=r) ho (by simp);exact k
theorem QpX (S:Sub vs bs st) {r off:Nat} {cells cs:List EV} {t:TypeId} {F:List (Nat×EB)} {u:Value} (fr:Frz bs F) {Pub:Nat->Nat->Prop} (I:Inv E kp φ Pub (obs (F++st.heap)) w) (ho:ob_ bs r=.box cells t) (hk:QD r F=false)
  (hR:∀ b cur,φ r=some (b,1)->w.heap[b]? = some (.cells cur t (0,0))->RAs w Pub φ (avL cs) cur.toList) (h1:QL cs=true) (h2:shL cs=true) (hu:RA w Pub φ (.own r off) u) :
  Frz bs ((r,.row cs t cs.length cs.length)::F)/\∃ Pub',Inv E kp φ Pub' (obs ((r,.row cs t cs.length cs.length)::F++st.heap)) w/\Adv w Pub w Pub'/\RA w Pub' φ (EV.pp cs off).av u:=by
 have I2:Inv E kp φ Pub (obs F++obs st.heap) w:=by rw [<- Q1];exact I
 have hl:=QhS S ho hk
 have hal:∀ q,(look OB.dead ((r,OB.box (avL cs) t)::(obs F++obs st.heap)) q).alive=true->(look OB.dead (obs F++obs st.heap) q).alive=true:=fun q hq=>by
  rw [Qb] at hq;by_cases e:r=q
  ·subst e;rw [hl];rfl
  ·rw [if_neg e] at hq;exact hq
 have I3:Inv E kp φ Pub ((r,OB.box (avL cs) t)::(obs F++obs st.heap)) w:=by
  refine I2.next rfl rfl rfl (QxA _) (fun _ _ _=>rfl) (Adv.refl _ _) (fun _ _ hp=>.inl hp) I2.publ (fun q hq=>?_) (fun q b c hq=>I2.mine q b c (hal q hq)) (fun q q' b c c' hq hq'=>I2.inj q q' b c c' (hal q hq) (hal q' hq')) (fun _ _=>rfl);rw [Qb];split
  ·next e =>
   subst e;have k:=I2.own r;rw [hl] at k;obtain ⟨b,cur,k1,k2,k3,k4,k5⟩:=k;exact ⟨b,cur,k1,k2,hR b cur k1 k2,k4,k5⟩
  ·exact I2.own q
 obtain ⟨Pub',I4,H,k1,k2⟩:=I3.share (r:=r) (cells:=pvL cs) (t:=t) (sz:=(pvL cs).length) (pub:=0) (ob:=.box (avL cs) t) (by rw [Qb,if_pos rfl]) (.inr (.inl ⟨_,rfl,VU cs h1 h2,rfl⟩));refine ⟨fun r' e' hm=>?_,Pub',?_,H,?_⟩
 ·rcases Qxq.1 hm with h | h
  ·cases h;exact ⟨pvL cs,t,cs.length,by simp [EB.ob,Qk],.inr (.inl ⟨avL cells,by rw [ho];rfl⟩)⟩
  ·exact fr r' e' h
 ·refine I4.sub fun q=>.inl ?_;show look OB.dead ((r,(EB.row cs t cs.length cs.length).ob)::obs (F++st.heap)) q=_;rw [Qb,Qb,Qb,Q1];split
  ·simp [EB.ob,Qk]
  ·rfl
 ·have k:=QeU k1 k2 (QF H _ _ (fun _ _=>rfl) hu);simp only [shA,Qxz,cond_true] at k;unfold EV.av;exact k
theorem QpY (S:Sub vs bs st) {r:Nat} {F:List (Nat×EB)} (ho:ob_ bs r≠.dead) (hk:QD r F=false):look OB.dead (obs F++obs st.heap) r=(ob_ bs r).ob:=by
 rw [Qv,if_neg (by rw [Jk,hk];simp)];exact S.ob (r:=r) rfl ho
theorem Ql3 (S:Sub vs bs st):∀ (ns:List Nat) {kl:List EV} {F F0:List (Nat×EB)} {Pub:Nat->Nat->Prop},QpW bs ns=some (kl,F)->Frz bs F0->Inv E kp φ Pub (obs (F0++st.heap)) w ->
  Frz bs (F++F0)/\kl.length=ns.length/\∃ Pub',Inv E kp φ Pub' (obs (F++F0++st.heap)) w/\Adv w Pub w Pub' /\ ∀ q r',ns[q]? = some r' -> ∀ u,RA w Pub' φ (.osl r' (lnE (kl.getD q .any))) u->RP w Pub' (kl.getD q .any).pv u
 | [],kl,F,F0,Pub,h,fr,I=>by
  simp only [QpW] at h;cases h;exact ⟨fr,rfl,Pub,I,Adv.refl _ _,fun q r' hq=>by simp at hq⟩
 | r::ns,kl,F,F0,Pub,h,fr,I=>by
  simp only [QpW] at h;split at h
  ·next m sz f T pub hb =>
   split at h
   ·next l F1 h1 =>
    cases h;obtain ⟨f1,l1,P1,I1,H1,R1⟩:=Ql3 S ns h1 fr I;have I2:Inv E kp φ P1 (obs (F1++F0)++obs st.heap) w:=by rw [<- Q1];exact I1
    have ho:(ob_ bs r).ob=.row (lzC m sz f) T sz pub:=by rw [hb];rfl
    obtain ⟨p',hl⟩:=f1.look S ho;obtain ⟨P2,I3,H,k1,k2⟩:=I2.share hl (.inl rfl);have e:(EB.rz m sz f T (m * sz)).ob=.row (lzC m sz f) T sz (lzC m sz f).length:=by show OB.row _ _ _ _=OB.row _ _ _ _;rw [show (lzC m sz f).length=m * sz from Wp m sz f]
    refine ⟨fun r' e' hm=>?_,by simp [l1],P2,?_,H1.trans H,fun q r' hq u hu=>?_⟩
    ·rw [Qxs] at hm;rcases Qxq.1 hm with h | h
     ·cases h;exact ⟨lzC m sz f,_,_,e,.inl ⟨_,ho⟩⟩
     ·exact f1 r' e' h
    ·show Inv E kp φ P2 ((r,(EB.rz m sz f T (m * sz)).ob)::obs (F1++F0++st.heap)) w;rw [Q1 (F1++F0),e];exact I3
    ·cases q with
     | zero =>
      rw [List.getElem?_cons_zero] at hq;cases hq;simp only [List.getD_cons_zero,lnE] at hu ⊢;have k:=QeU k1 k2 hu;simp only [shA,Qxz,cond_true] at k;unfold RA at k;unfold EV.pv;exact k
     | succ q =>
      rw [List.getElem?_cons_succ] at hq;simp only [List.getD_cons_succ] at hu ⊢;exact Qaa H _ _ (R1 q r' hq u (by unfold RA at hu ⊢;exact hu))
   ·cases h
  ·cases h
theorem Qko {kl:List EV} {x:EV} (h:QtG kl x):(∃ q k,x=.osl q k/\q < kl.length/\lnE (kl.getD q .any)=k)\/(raC kl x=x/\x.sh=true):=by
 cases x
 case osl q k=>exact .inl ⟨q,k,rfl,h⟩
 all_goals exact .inr ⟨rfl,h⟩
theorem Ql4 {P0 P1:Nat->Nat->Prop} {ψ:Qi} {f:EV->PV}:∀ (xs:List EV) (us:List Value),(∀ x∈xs,∀ u,RA w P0 ψ x.av u->RP w P1 (f x) u)->RAs w P0 ψ (xs.map EV.av) us->RPs w P1 (xs.map f) us
 | [],us,_,h=>by simp only [List.map_nil] at h ⊢;unfold RAs at h;unfold RPs;exact h
 | x::xs,us,hx,h=>by
  simp only [List.map_cons] at h ⊢;unfold RAs at h;unfold RPs;obtain ⟨u,vs,e,k1,k2⟩:=h;exact ⟨u,vs,e,hx x (by simp) u k1,Ql4 xs vs (fun y hy=>hx y (Qxp _ hy)) k2⟩
theorem QaB {α:Type} (g:EV->α) (n sz:Nat) (f:Nat->Nat->EV):((Qxw n).flatMap fun i=>(Qxw sz).map fun j=>g (f i j))=((Qxw n).flatMap fun i=>(Qxw sz).map fun j=>f i j).map g:=by
 rw [List.map_flatMap];simp [Function.comp_def]
theorem Ql5 (S:Sub vs bs st) {r n m sz:Nat} {f:Nat->Nat->EV} {T:TypeId} {ns:List Nat} {z:EV} {C:List Prop} {F F0:List (Nat×EB)} {u:Value} {Pub:Nat->Nat->Prop} (h:raE bs r n m sz f T ns=some (C,z,F)) (ho:ob_ bs r=.ra m sz f T ns)
  (hC:∀ c∈C,c) (fr:Frz bs F0) (nd:ndB bs (F++F0)=true) (I:Inv E kp φ Pub (obs (F0++st.heap)) w) (hu:RA w Pub φ (.osl r n) u) :
  Frz bs (F++F0)/\∃ Pub',Inv E kp φ Pub' (obs (F++F0++st.heap)) w/\Adv w Pub w Pub'/\RA w Pub' φ z.av u:=by
 unfold raE at h;split at h
 ·next kl KF hk =>
  cases h;have e:=hC (n=m) (by simp);have hok:=hC (∀ i,i < m -> ∀ j,j < sz->QtG kl (f i j)) (by simp);subst e;rw [Qxs] at nd;unfold ndB at nd;rw [ho] at nd;simp only [Qxo,Qxx] at nd;obtain ⟨f1,l1,P1,I1,H1,R1⟩:=Ql3 S ns hk fr I;have I2:Inv E kp φ P1 (obs (KF++F0)++obs st.heap) w:=by rw [<- Q1];exact I1
  have hl:=QpY S (F:=KF++F0) (r:=r) (by rw [ho];simp) nd.1;rw [ho] at hl
  have hcell:∀ vs,RAs w P1 (loc φ ns) ((Qxw n).flatMap fun i=>(Qxw sz).map fun j=>(f i j).av) vs->RPs w P1 (lzC n sz fun a b=>raC kl (f a b)) vs:=fun vs hv=>by
   rw [QaB EV.av] at hv;show RPs w P1 ((Qxw n).flatMap fun i=>(Qxw sz).map fun j=>(raC kl (f i j)).pv) vs;rw [QaB (fun x=>(raC kl x).pv)];refine Ql4 _ _ (fun x hx u k=>?_) hv;rw [List.mem_flatMap] at hx;obtain ⟨i,hi,hx⟩:=hx;rw [List.mem_map] at hx;obtain ⟨j,hj,rfl⟩:=hx;rw [List.mem_range] at hi hj;rcases Qko (hok i hi j hj) with ⟨q,k',e,hq,hlq⟩ | ⟨e,hs⟩
   ·rw [e] at k ⊢;have hq':ns[q]? = some ns[q]:=List.getElem?_eq_getElem (by omega);refine R1 q ns[q] hq' u ?_;unfold EV.av RA at k;rw [Jg hq'] at k;unfold RA;rw [hlq];exact k
   ·rw [e];exact (XK _ u hs).1 k
  have hlen:((Qxw n).flatMap fun i=>(Qxw sz).map fun j=>(f i j).av).length=(lzC n sz fun a b=>raC kl (f a b)).length:=by
   rw [show (lzC n sz fun a b=>raC kl (f a b)).length=n * sz from Wp _ _ _,<- Wp n sz f,QaB EV.av,QaB EV.pv,List.length_map,List.length_map]
  obtain ⟨P2,I3,H,k1,k2⟩:=I2.share hl (pub:=0) (.inr (.inr ⟨_,ns,rfl,hlen,hcell⟩));have eb:(EB.rz n sz (fun a b=>raC kl (f a b)) T (n * sz)).ob=.row (lzC n sz fun a b=>raC kl (f a b)) T sz (lzC n sz fun a b=>raC kl (f a b)).length:=by show OB.row _ _ _ _=OB.row _ _ _ _;rw [show (lzC n sz fun a b=>raC kl (f a b)).length=n * sz from Wp _ _ _]
  refine ⟨fun r' e' hm=>?_,P2,?_,H1.trans H,?_⟩
  ·rw [Qxs] at hm;rcases Qxq.1 hm with h | h
   ·cases h;exact ⟨_,_,_,eb,.inr (.inr ⟨_,_,by rw [ho];rfl⟩)⟩
   ·exact f1 r' e' h
  ·show Inv E kp φ P2 ((r,(EB.rz n sz (fun a b=>raC kl (f a b)) T (n * sz)).ob)::obs (KF++F0++st.heap)) w;rw [Q1 (KF++F0),eb];exact I3
  ·have k:=QeU k1 k2 (QF (H1.trans H) _ _ (fun _ _=>rfl) hu);simp only [shA,Qxz,cond_true] at k;unfold EV.av EV.pv;exact k
 ·cases h
def FzOk (E:Env) (kp:List Nat) (st:ES) (bs:List (Nat×EB)) (w:World) (φ:Qi) (g:EV->Option (List Prop×EV×List (Nat×EB))):Prop :=
 ∀ (x z:EV) (C:List Prop) (F F0:List (Nat×EB)) (u:Value) (Pub:Nat->Nat->Prop),g x=some (C,z,F)->(∀ c∈C,c)->Frz bs F0->ndB bs (F++F0)=true->Inv E kp φ Pub (obs (F0++st.heap)) w->RA w Pub φ x.av u ->
  Frz bs (F++F0)/\∃ Pub',Inv E kp φ Pub' (obs (F++F0++st.heap)) w/\Adv w Pub w Pub'/\RA w Pub' φ z.av u
theorem Qgm {g:EV->Option (List Prop×EV×List (Nat×EB))} (hg:FzOk E kp st bs w φ g):∀ (xs l:List EV) (C:List Prop) (F F0:List (Nat×EB)) (us:List Value) (Pub:Nat->Nat->Prop),dfL g xs=some (C,l,F)->(∀ c∈C,c)->Frz bs F0->ndB bs (F++F0)=true->Inv E kp φ Pub (obs (F0++st.heap)) w->RAs w Pub φ (avL xs) us ->
  Frz bs (F++F0)/\∃ Pub',Inv E kp φ Pub' (obs (F++F0++st.heap)) w/\Adv w Pub w Pub'/\RAs w Pub' φ (avL l) us
 | [],l,C,F,F0,us,Pub,h,hC,fr,nd,I,hu=>by
  simp only [dfL] at h;cases h;exact ⟨fr,Pub,I,Adv.refl _ _,hu⟩
 | x::xs,l,C,F,F0,us,Pub,h,hC,fr,nd,I,hu=>by
  simp only [dfL] at h;split at h
  ·next C1 z F1 h1 =>
   split at h
   ·next C2 l2 F2 h2 =>
    cases h;unfold avL RAs at hu;obtain ⟨u,us',e,hu1,hu2⟩:=hu;rw [Qxv] at nd;obtain ⟨f1,P1,I1,H1,R1⟩:=Qgm hg xs _ _ _ _ _ _ h2 (fun c hc=>hC c (Qxt _ hc)) fr (Qgi nd) I hu2;obtain ⟨f2,P2,I2,H2,R2⟩:=hg _ _ _ _ _ _ _ h1 (fun c hc=>hC c (Qxu _ hc)) f1 nd I1 (QF H1 _ _ (fun _ _=>rfl) hu1);rw [<- Qxv] at f2 I2;refine ⟨f2,P2,I2,H1.trans H2,?_⟩;unfold avL RAs;exact ⟨u,us',e,R2,WR H2 _ _ (fun _ _=>rfl) R1⟩
   ·cases h
  ·cases h
theorem VV (S:Sub vs bs st):∀ k,FzOk E kp st bs w φ (dfE bs k)
 | 0,x,z,C,F,F0,u,Pub,h,hC,fr,nd,I,hu=>by simp only [dfE] at h;cases h
 | k+1,x,z,C,F,F0,u,Pub,h,hC,fr,nd,I,hu=>by
  unfold dfE at h;split at h
  ·next r off =>
   split at h
   ·next cells t hb =>
    split at h
    ·next C1 cs F1 h1 =>
     cases hc:shL cs && QL cs with
     | false=>rw [hc] at h;cases h
     | true =>
      rw [hc] at h;simp only [cond_true] at h;cases h;rw [Qxo] at hc;rw [Qxs] at nd;unfold ndB at nd;rw [hb] at nd;simp only [Qxo,Qxx] at nd;obtain ⟨n1,n2⟩:=nd
      have n0:QD r F0=false:=by
       have:∀ l:List (Nat×EB),QD r (l++F0)=false->QD r F0=false:=by
        intro l
        induction l with
        | nil=>exact id
        | cons p l ih=>intro hh;simp only [Qxs,QD,Bool.or_eq_false_iff] at hh;exact ih hh.2
       exact this F1 n1
      have hl:=QhS S (F:=F0) hb n0;have k0:=I.own r;rw [Q1,hl] at k0;obtain ⟨b,cur,k1,k2,k3,k4,k5⟩:=k0;obtain ⟨f1,P1,I1,H1,R1⟩:=Qgm (VV S k) _ _ _ _ _ _ _ h1 hC fr n2 I k3;unfold EV.av at hu
      obtain ⟨f2,P2,I2,H2,R2⟩:=QpX S (off:=off) f1 I1 hb n1 (fun b' cur' e1 e2=>by
       rw [k1] at e1;cases e1;rw [k2] at e2;cases e2
       exact R1) hc.2 hc.1 (QF H1 _ _ (fun _ _=>rfl) hu)
      exact ⟨f2,P2,I2,H1.trans H2,R2⟩
    ·cases h
   ·next cells T sz pub hb =>
    cases h;exact QtH S (cells:=pvL cells) fr I (by rw [hb];rfl) (by simp [EB.ob,Qk]) rfl hu
   ·cases h
  ·next r m =>
   unfold EV.av at hu;split at h
   ·next l T pub hb =>
    cases h;have e:m=l.length:=hC (m=l.length) (by simp);subst e;exact XM S fr I (by rw [hb];rfl) (by simp [EB.ob]) rfl hu
   ·next m' sz f T pub hb =>
    cases h;have e:m=m':=hC (m=m') (by simp);subst e;exact XM S (cells:=lzC m sz f) fr I (by rw [hb];rfl) (by unfold EB.ob;rw [Wp]) (by simp [EV.av,EV.pv]) hu
   ·next cells T sz pub hb =>
    cases h;exact XM S (cells:=pvL cells) fr I (by rw [hb];rfl) (by simp [EB.ob,Qk]) rfl hu
   ·next m' sz f T ns hb=>exact Ql5 S h hb hC fr nd I hu
   ·cases h
  ·next l =>
   split at h
   ·next C1 cs F1 h1 =>
    cases h;unfold EV.av RA at hu;obtain ⟨vs,e,hu⟩:=hu;obtain ⟨f1,P1,I1,H1,R1⟩:=Qgm (VV S k) _ _ _ _ _ _ _ h1 hC fr nd I hu;exact ⟨f1,P1,I1,H1,by unfold EV.av RA;exact ⟨vs,e,R1⟩⟩
   ·cases h
  ·cases h;exact ⟨fr,Pub,I,Adv.refl _ _,hu⟩
theorem Wa (S:Sub vs bs st) {x z:EV} {C:List Prop} {F F0:List (Nat×EB)} {u:Value} {Pub:Nat->Nat->Prop}
  (h:(match x with
  | .osl r n=>match ob_ bs r with
   | .rb l T _=>some ([n=l.length],EV.bs l,[(r,EB.rb l T l.length)])
   | .rz m sz f T _=>some ([n=m],.lz m sz f,[(r,.rz m sz f T (m * sz))])
   | .row cells T sz _=>some ([],.sl cells n,[(r,.row cells T sz cells.length)])
   | .ra m sz f T ns=>raE bs r n m sz f T ns
   | _=>none
  | .own r off=>dfE bs 12 (.own r off)
  | x=>some ([],x,[]))=some (C,z,F)) (hC:∀ c∈C,c) (fr:Frz bs F0) (nd:ndB bs (F++F0)=true) (I:Inv E kp φ Pub (obs (F0++st.heap)) w) (hu:RA w Pub φ x.av u) :
  Frz bs (F++F0)/\∃ Pub',Inv E kp φ Pub' (obs (F++F0++st.heap)) w/\Adv w Pub w Pub'/\RA w Pub' φ z.av u:=by
 split at h
 ·next r m =>
  split at h
  ·next l T pub hb =>
   cases h;have e:m=l.length:=hC (m=l.length) (by simp);subst e;exact XM S fr I (by rw [hb];rfl) (by simp [EB.ob]) rfl hu
  ·next m' sz f T pub hb =>
   cases h;have e:m=m':=hC (m=m') (by simp);subst e;exact XM S (cells:=lzC m sz f) fr I (by rw [hb];rfl) (by unfold EB.ob;rw [Wp]) (by simp [EV.av,EV.pv]) hu
  ·next cells T sz pub hb =>
   cases h;exact XM S (cells:=pvL cells) fr I (by rw [hb];rfl) (by simp [EB.ob,Qk]) rfl hu
  ·next m' sz f T ns hb=>exact Ql5 S h hb hC fr nd I (by unfold EV.av at hu;exact hu)
  ·cases h
 ·next r off=>exact VV S 12 _ _ _ _ _ _ _ h hC fr nd I hu
 ·cases h;exact ⟨fr,Pub,I,Adv.refl _ _,hu⟩
mutual
theorem QpZ (S:Sub vs bs st):∀ (y:EV) {x z:EV} {C:List Prop} {F F0:List (Nat×EB)} {u:Value} {Pub:Nat->Nat->Prop},cvE bs x y=some (C,z,F)->(∀ c∈C,c)->Frz bs F0->ndB bs (F++F0)=true->Inv E kp φ Pub (obs (F0++st.heap)) w->RA w Pub φ x.av u ->
  Frz bs (F++F0)/\∃ Pub',Inv E kp φ Pub' (obs (F++F0++st.heap)) w/\Adv w Pub w Pub'/\RA w Pub' φ z.av u
 | .osl _ _,x,z,C,F,F0,u,Pub,h,hC,fr,nd,I,hu=>by
  unfold cvE at h;cases h;exact ⟨fr,Pub,I,Adv.refl _ _,hu⟩
 | .own _ _,x,z,C,F,F0,u,Pub,h,hC,fr,nd,I,hu=>by
  unfold cvE at h;cases h;exact ⟨fr,Pub,I,Adv.refl _ _,hu⟩
 | .agg ys,x,z,C,F,F0,u,Pub,h,hC,fr,nd,I,hu=>by
  unfold cvE at h;split at h
  ·next xs =>
   split at h
   ·next C' l F' hl =>
    cases h;unfold EV.av RA at hu;obtain ⟨vs,e,hu⟩:=hu;obtain ⟨f1,Pub',I',H,hR⟩:=Qgn S ys hl hC fr nd I hu;exact ⟨f1,Pub',I',H,by unfold EV.av RA;exact ⟨vs,e,hR⟩⟩
   ·cases h
  ·cases h
 | .tup ys,x,z,C,F,F0,u,Pub,h,hC,fr,nd,I,hu=>by
  unfold cvE at h;split at h
  ·next xs =>
   split at h
   ·next C' l F' hl =>
    cases h;unfold EV.av RA at hu;obtain ⟨vs,e,hu⟩:=hu;obtain ⟨f1,Pub',I',H,hR⟩:=Qgn S ys hl hC fr nd I hu;exact ⟨f1,Pub',I',H,by unfold EV.av RA;exact ⟨vs,e,hR⟩⟩
   ·cases h
  ·cases h
 | .v _,x,z,C,F,F0,u,Pub,h,hC,fr,nd,I,hu=>by unfold cvE at h;exact Wa S h hC fr nd I hu
 | .u8 _,x,z,C,F,F0,u,Pub,h,hC,fr,nd,I,hu=>by unfold cvE at h;exact Wa S h hC fr nd I hu
 | .u32 _,x,z,C,F,F0,u,Pub,h,hC,fr,nd,I,hu=>by unfold cvE at h;exact Wa S h hC fr nd I hu
 | .u64 _,x,z,C,F,F0,u,Pub,h,hC,fr,nd,I,hu=>by unfold cvE at h;exact Wa S h hC fr nd I hu
 | .az _ _,x,z,C,F,F0,u,Pub,h,hC,fr,nd,I,hu=>by unfold cvE at h;exact Wa S h hC fr nd I hu
 | .bs _,x,z,C,F,F0,u,Pub,h,hC,fr,nd,I,hu=>by unfold cvE at h;exact Wa S h hC fr nd I hu
 | .lz _ _ _,x,z,C,F,F0,u,Pub,h,hC,fr,nd,I,hu=>by unfold cvE at h;exact Wa S h hC fr nd I hu
 | .pp _ _,x,z,C,F,F0,u,Pub,h,hC,fr,nd,I,hu=>by unfold cvE at h;exact Wa S h hC fr nd I hu
 | .pb _ _,x,z,C,F,F0,u,Pub,h,hC,fr,nd,I,hu=>by unfold cvE at h;exact Wa S h hC fr nd I hu
 | .pz _ _ _ _ _,x,z,C,F,F0,u,Pub,h,hC,fr,nd,I,hu=>by unfold cvE at h;exact Wa S h hC fr nd I hu
 | .raw _,x,z,C,F,F0,u,Pub,h,hC,fr,nd,I,hu=>by unfold cvE at h;exact Wa S h hC fr nd I hu
 | .fn _ _,x,z,C,F,F0,u,Pub,h,hC,fr,nd,I,hu=>by unfold cvE at h;exact Wa S h hC fr nd I hu
 | .rp _,x,z,C,F,F0,u,Pub,h,hC,fr,nd,I,hu=>by unfold cvE at h;exact Wa S h hC fr nd I hu
 | .mref _,x,z,C,F,F0,u,Pub,h,hC,fr,nd,I,hu=>by
  unfold cvE at h;cases h;exact ⟨fr,Pub,I,Adv.refl _ _,hu⟩
 | .sl _ _,x,z,C,F,F0,u,Pub,h,hC,fr,nd,I,hu=>by unfold cvE at h;exact Wa S h hC fr nd I hu
 | .po _ _ _ _,x,z,C,F,F0,u,Pub,h,hC,fr,nd,I,hu=>by unfold cvE at h;exact Wa S h hC fr nd I hu
 | .oss _ _ _ _,x,z,C,F,F0,u,Pub,h,hC,fr,nd,I,hu=>by unfold cvE at h;exact Wa S h hC fr nd I hu
 | .cnd _ _,x,z,C,F,F0,u,Pub,h,hC,fr,nd,I,hu=>by unfold cvE at h;exact Wa S h hC fr nd I hu
 | .any,x,z,C,F,F0,u,Pub,h,hC,fr,nd,I,hu=>by
  unfold cvE at h;cases h;exact ⟨fr,Pub,I,Adv.refl _ _,hu⟩
theorem Qgn (S:Sub vs bs st):∀ (ys:List EV) {xs l:List EV} {C:List Prop} {F F0:List (Nat×EB)} {us:List Value} {Pub:Nat->Nat->Prop},cvL bs xs ys=some (C,l,F)->(∀ c∈C,c)->Frz bs F0->ndB bs (F++F0)=true->Inv E kp φ Pub (obs (F0++st.heap)) w->RAs w Pub φ (avL xs) us ->
  Frz bs (F++F0)/\∃ Pub',Inv E kp φ Pub' (obs (F++F0++st.heap)) w/\Adv w Pub w Pub'/\RAs w Pub' φ (avL l) us
 | [],xs,l,C,F,F0,us,Pub,h,hC,fr,nd,I,hu=>by
  unfold cvL at h;split at h
  ·cases h;exact ⟨fr,Pub,I,Adv.refl _ _,hu⟩
  ·cases h
 | y::ys,xs,l,C,F,F0,us,Pub,h,hC,fr,nd,I,hu=>by
  unfold cvL at h;split at h
  ·next x xs' =>
   split at h
   ·next C1 z F1 h1 =>
    split at h
    ·next C2 l2 F2 h2 =>
     cases h;unfold avL RAs at hu;obtain ⟨u,us',e,hu1,hu2⟩:=hu;rw [Qxv] at nd;obtain ⟨f1,P1,I1,H1,R1⟩:=Qgn S ys h2 (fun c hc=>hC c (Qxt _ hc)) fr (Qgi nd) I hu2;obtain ⟨f2,P2,I2,H2,R2⟩:=QpZ S y h1 (fun c hc=>hC c (Qxu _ hc)) f1 nd I1 (QF H1 _ _ (fun _ _=>rfl) hu1);rw [<- Qxv] at f2 I2;refine ⟨f2,P2,I2,H1.trans H2,?_⟩;unfold avL RAs;exact ⟨u,us',e,R2,WR H2 _ _ (fun _ _=>rfl) R1⟩
    ·cases h
   ·cases h
  ·cases h
end
end
section
variable {P:Program} {E:Env} {kp:List Nat} {n:Nat} {ops:Array Oper} {d:Nat} {ty:TypeId} {ps:String} {af:Array Edge}
variable {tab:TT} {vs:List (Nat×EV)} {bs:List (Nat×EB)} {st:ES}
theorem QhT (S:Sub vs bs st) {a:Act} {w:World} {φ:Qi} {Pub:Nat->Nat->Prop} (I:Inv E kp φ Pub st.as.heap w) (hs:∀ s,RA w Pub φ (look .any st.as.slots s) (a.tmps.getD s undef)) {args:List Operand} {ce:List EV} {us:List Value} (hce:RAs w Pub φ (avL ce) us) {a5s l:List EV} {C:List Prop} {hp:List (Nat×EB)} (h:Ql0 vs bs args ce a5s=some (C,l,hp)) (hC:∀ c∈C,c) :
  Frz bs hp/\∃ Pub',Inv E kp φ Pub' (obs (hp++st.heap)) w/\Adv w Pub w Pub'/\RAs w Pub' φ (avL l) (args.map a.eval++us):=by
 have hx:∀ args:List Operand,RAs w Pub φ (avL (QhR vs ce args)) (args.map a.eval++us):=by
  intro args
  induction args with
  | nil=>simp only [QhR,List.map_nil,List.nil_append];exact hce
  | cons x xs ih =>
   simp only [QhR,avL,List.map_cons,Qxs];unfold RAs;exact ⟨_,_,rfl,S.v x _ _ _ _ (Za (h:=st.as.heap) hs x),ih⟩
 unfold Ql0 at h;split at h
 ·next C' l' F' hcv =>
  cases hnd:ndB bs F' with
  | false=>rw [hnd] at h;cases h
  | true =>
  rw [hnd] at h;simp only [cond_true] at h;cases h;obtain ⟨f1,Pub',I',H,hR⟩:=Qgn S (F0:=[]) a5s hcv hC (fun r e hm=>by cases hm) (by rw [List.append_nil];exact hnd) I (hx args);rw [List.append_nil] at f1 I';exact ⟨f1,Pub',I',H,hR⟩
 ·cases h
theorem QaC:∀ {h:List (Nat×EB)} {q:Nat} {x:EB},ndK h=true->(q,x)∈h->look EB.dead h q=x
 | (k,y)::h,q,x,hn,hm=>by
  simp only [ndK,Qxo,Qxx] at hn;rw [Qb];rcases Qxq.1 hm with e | e
  ·cases e;rw [if_pos rfl]
  ·have:k≠q:=fun e2=>by
    subst e2
    have:QD k h=true:=by
     clear hn hm
     induction h with
     | nil=>cases e
     | cons p h ih =>
      rcases Qxq.1 e with e | e
      ·subst e;simp [QD]
      ·simp [QD,ih e]
    rw [hn.1] at this;cases this
   rw [if_neg this];exact QaC hn.2 e
theorem QnI {φ:Qi} {Pub:Nat->Nat->Prop} {w:World} {h:List (Nat×OB)} {σ:List (Nat×Nat)} {hin:List (Nat×OB)} (I:Inv E kp φ Pub h w) (ho:W3 σ=true) (hi:Y4 σ hin=true)
  (hb:∀ q,(look OB.dead hin q).alive=true->QaA (look OB.dead h (sg σ q)) ((look OB.dead hin q).sg σ)) (hall:∀ q x,(q,x)∈hin->(look OB.dead hin q).alive=true):Inv E kp φ Pub (sgH σ hin++h) w:=by
 have cas:∀ r,look OB.dead (sgH σ hin++h) r=look OB.dead h r\/∃ q,r=sg σ q/\(look OB.dead hin q).alive=true/\look OB.dead (sgH σ hin++h) r=(look OB.dead hin q).sg σ:=fun r=>by
  rw [Qv]
  cases hk:QD r (sgH σ hin) with
  | false=>rw [if_neg (by simp)];exact .inl rfl
  | true =>
   rw [if_pos rfl]
   have:∃ q x,(q,x)∈hin/\r=sg σ q:=by
    clear hb hall hi I
    induction hin with
    | nil=>cases hk
    | cons p hin ih =>
     obtain ⟨q,x⟩:=p;simp only [sgH,QD,Qxr] at hk;rcases hk with hk | hk
     ·exact ⟨q,x,by simp,(Qc hk).symm⟩
     ·obtain ⟨q',x',h1,h2⟩:=ih hk;exact ⟨q',x',Qxp _ h1,h2⟩
   obtain ⟨q,x,hm,rfl⟩:=this;have hal:=hall q x hm;exact .inr ⟨q,rfl,hal,Qan ho ((Zp hi).2 hal) hi⟩
 refine I.next rfl rfl rfl (QxA _) (fun _ _ _=>rfl) (Adv.refl _ _) (fun _ _ hp=>.inl hp) I.publ (fun r hr=>?_) (fun r b c hr=>?_) (fun r r' b c c' hr hr'=>?_) (fun _ _=>rfl)
 ·rcases cas r with e | ⟨q,rfl,h1,h2⟩
  ·rw [e];exact I.own r
  ·rw [h2];exact (hb q h1).2 w Pub φ _ (I.own _)
 ·rcases cas r with e | ⟨q,rfl,h1,h2⟩
  ·rw [e] at hr;exact I.mine r b c hr
  ·exact I.mine _ b c (hb q h1).1
 ·have al:∀ r,(look OB.dead (sgH σ hin++h) r).alive=true->(look OB.dead h r).alive=true:=fun r hr=>by
   rcases cas r with e | ⟨q,rfl,h1,h2⟩
   ·rw [e] at hr;exact hr
   ·exact (hb q h1).1
  exact I.inj r r' b c c' (al r hr) (al r' hr')
theorem QdE (d:Nat):∀ (h:List (Nat×EB)) (σ:List (Nat×Nat)),Ext (QnH d σ h) σ
 | [],σ=>Ext.refl _
 | (q,x)::h,σ=>by
  unfold QnH
  cases hd:Q6 q σ with
  | true=>exact QdE d h σ
  | false =>
   refine (QdE d h _).trans (fun p hp=>?_);have hne:q≠p:=fun e=>by subst e;rw [hd] at hp;cases hp
   refine ⟨by simp [Q6,hp],?_⟩;unfold sg;rw [Qb,if_neg hne]
theorem QhU {st:AS} {kp:List Nat} {hin:List (Nat×OB)}:∀ {σ:List (Nat×Nat)},(∀ p∈σ,(look OB.dead hin p.1).alive=true\/st.free kp p.2=true)->Qam st kp hin σ=true
 | [],_=>rfl
 | (q,x)::σ,h=>by
  simp only [Qam,Qxo,Qxr];exact ⟨h (q,x) (by simp),QhU fun p hp=>h p (Qxp _ hp)⟩
theorem QdF {σ:List (Nat×Nat)} {q:Nat} {x:EB}:∀ {h:List (Nat×EB)},(q,x)∈h->(sg σ q,x.sg σ)∈QhO σ h
 | (k,y)::h,hm=>by
  rcases Qxq.1 hm with e | e
  ·cases e;simp [QhO]
  ·simp only [QhO];exact Qxp _ (QdF e)
theorem Qe7:∀ {l:List (Nat×EB)} {r:Nat},(look EB.dead l r).alive=true->(r,look EB.dead l r)∈l
 | [],r,h=>by simp [look,EB.alive] at h
 | (k,x)::l,r,h=>by
  rw [Qb] at h ⊢;by_cases e:k=r
  ·subst e;rw [if_pos rfl];simp
  ·rw [if_neg e] at h ⊢;exact Qxp _ (Qe7 h)
theorem QdG {r:Nat} {x:EB}:∀ {h:List (Nat×EB)},(r,x)∈h->(r,x.ob)∈obs h
 | (k,y)::h,hm=>by
  rcases Qxq.1 hm with e | e
  ·cases e;simp [obs]
  ·simp only [obs];exact Qxp _ (QdG e)
theorem QhV {α:Type} {r:Nat} {x:α}:∀ {l:List (Nat×α)},(r,x)∈l->QD r l=true
 | (k,y)::l,hm=>by
  rcases Qxq.1 hm with e | e
  ·cases e;simp [QD]
  ·simp [QD,QhV e]
mutual
theorem Qp0 (σ:List (Nat×Nat)) (r:Nat):∀ x:AV,(x.sg σ).has r=true->∃ q,x.has q=true/\sg σ q=r
 | .p x,h=>by unfold AV.sg AV.has at h;cases h
 | .agg l,h=>by
  unfold AV.sg AV.has at h;obtain ⟨q,h1,h2⟩:=Qct σ r l h;exact ⟨q,by unfold AV.has;exact h1,h2⟩
 | .tup l,h=>by
  unfold AV.sg AV.has at h;obtain ⟨q,h1,h2⟩:=Qct σ r l h;exact ⟨q,by unfold AV.has;exact h1,h2⟩
 | .own q off,h=>by unfold AV.sg AV.has at h;exact ⟨q,by unfold AV.has;simp,Qc h⟩
 | .osl q m,h=>by unfold AV.sg AV.has at h;exact ⟨q,by unfold AV.has;simp,Qc h⟩
 | .mref q,h=>by unfold AV.sg AV.has at h;exact ⟨q,by unfold AV.has;simp,Qc h⟩
 | .oss q _ _ _,h=>by unfold AV.sg AV.has at h;exact ⟨q,by unfold AV.has;simp,Qc h⟩
 | .cnd g x,h=>by
  unfold AV.sg AV.has at h;obtain ⟨q,h1,h2⟩:=Qp0 σ r x h;exact ⟨q,by unfold AV.has;exact h1,h2⟩
 | .any,h=>by unfold AV.sg AV.has at h;cases h
theorem Qct (σ:List (Nat×Nat)) (r:Nat):∀ l:List AV,YC r (sgL σ l)=true->∃ q,YC q l=true/\sg σ q=r
 | [],h=>by unfold sgL YC at h;cases h
 | x::xs,h=>by
  unfold sgL YC at h;rw [Qxr] at h;rcases h with h | h
  ·obtain ⟨q,h1,h2⟩:=Qp0 σ r x h;exact ⟨q,by unfold YC;rw [h1];rfl,h2⟩
  ·obtain ⟨q,h1,h2⟩:=Qct σ r xs h;exact ⟨q,by unfold YC;rw [h1,Bool.or_true],h2⟩
end
theorem XN {σ:List (Nat×Nat)} {r:Nat} {H:List (Nat×OB)}:∀ {h:List (Nat×OB)},WH H h=true->WF r (sgH σ h)=true->∃ q,(look OB.dead H q).alive=true/\sg σ q=r
 | [],_,h=>by cases h
 | (k,.box cells t)::h,hc,hh=>by
  simp only [WH,Qxo] at hc;simp only [sgH,WF,Qxr] at hh;rcases hh with hh | hh
  ·obtain ⟨q,h1,h2⟩:=Qct σ r cells hh;exact ⟨q,Qah cells hc.1 h1,h2⟩
  ·exact XN hc.2 hh
 | (k,.row _ _ _ _)::h,hc,hh=>by
  simp only [WH] at hc;simp only [sgH,WF,OB.sg,OB.has,Qxy] at hh;exact XN hc hh
 | (k,.obj _)::h,hc,hh=>by
  simp only [WH] at hc;simp only [sgH,WF,OB.sg,OB.has,Qxy] at hh;exact XN hc hh
 | (k,.ra _ _ _ ns)::h,hc,hh=>by
  simp only [WH,Qxo] at hc;simp only [sgH,WF,Qxr] at hh;rcases hh with hh | hh
  ·have hm:r∈ns.map (sg σ):=List.contains_iff_mem.1 hh;obtain ⟨q,hq,e⟩:=List.mem_map.1 hm;exact ⟨q,List.all_eq_true.1 hc.1 q hq,e⟩
  ·exact XN hc.2 hh
 | (k,.it m _ _ _)::h,hc,hh=>by
  simp only [WH,Qxo] at hc;simp only [sgH,WF,OB.sg,OB.has,Qxr] at hh;rcases hh with hh | hh
  ·exact ⟨m,hc.1,Qc hh⟩
  ·exact XN hc.2 hh
 | (k,.dead)::h,hc,hh=>by simp [WH] at hc
theorem Qb2 {σ:List (Nat×Nat)} {r:Nat}:∀ {h:List (Nat×OB)},QD r (sgH σ h)=true->∃ q x,(q,x)∈h/\sg σ q=r
 | [],hk=>by cases hk
 | (q,x)::h,hk=>by
  simp only [sgH,QD,Qxr] at hk;rcases hk with hk | hk
  ·exact ⟨q,x,by simp,Qc hk⟩
  ·obtain ⟨q',x',h1,h2⟩:=Qb2 hk;exact ⟨q',x',Qxp _ h1,h2⟩
theorem QaD {σ:List (Nat×Nat)} {r:Nat}:∀ {h:List (Nat×OB)},QD r (Zx σ h)=QD r (sgH σ h)
 | []=>rfl
 | (q,x)::h=>by simp only [Zx,sgH,QD,QaD (h:=h)]
theorem Qgo {r:Nat} {hp:List (Nat×EB)} (F:Frz bs hp):WF r (obs hp)=false:=by
 induction hp with
 | nil=>rfl
 | cons p hp ih =>
  obtain ⟨q,eb⟩:=p;obtain ⟨c,T,sz,k2,_⟩:=F q eb (by simp);simp only [obs,WF,k2,OB.has,Qxy];exact ih fun r' e' hm=>F r' e' (Qxp _ hm)
theorem QhW {r:Nat}:∀ {F:List (Nat×EB)},QD r (obs F)=true->∃ eb,(r,eb)∈F
 | [],h=>by cases h
 | (q,x)::F,h=>by
  simp only [obs,QD,Qxr] at h;rcases h with h | h
  ·exact ⟨x,by rw [<- Qc h];simp⟩
  ·obtain ⟨eb,h1⟩:=QhW h;exact ⟨eb,Qxp _ h1⟩
theorem Qwb:∀ {σ:List (Nat×Nat)} {p:Nat×Nat},W3 σ=true->p∈σ->sg σ p.1=p.2:=fun ho hp=>Qf2 ho _ hp
theorem Qe8 {f:FuncId} {dst:Option Nat} {args:Array Operand} {ce:List EV} {argTypes:Array TypeId} {hin hout:List (Nat×EB)} {a5s:List EV} {res:EV} {R:RS} (S:Sub vs bs st) (hc:QX P f=true) (hev:Ct P f hin a5s hout res)
  {x:Operand} (hx:∀ (a:Act) (w:World) (φ:Qi) (Pub:Nat->Nat->Prop),(∀ s,RA w Pub φ (look .any st.as.slots s) (a.tmps.getD s undef))->∃ us:List Value,a.eval x=.func (.func f) #[] us.toArray/\RAs w Pub φ (avL ce) us)
  (h:Qb1 vs bs dst args.toList ce hin a5s hout res=some R) (hC:∀ c∈R.C,c) (hf:∀ p∈R.hp,(ob_ bs p.1).alive=true\/st.free kp p.1=true) (hd:∀ x,dst=some x->Nat.blt x n=true) :
  Qd P E kp n ops ⟨dst,.call { callee:=.value x,args:=args,argTypes },ty,ps,af,none⟩ st.as (R.app st).as:=by
 unfold Qb1 at h;split at h
 ·cases h
 ·next C0 l F h0 =>
  split at h
  ·cases h
  ·next C1 τ h1 =>
   split at h
   ·cases h
   ·next C2 σ h2 =>
    simp only at h;generalize hτ:QnH (dst.getD 999) σ hout=τ' at h
    cases hk:Qgk bs hin hout a5s res σ τ' with
    | false=>rw [hk] at h;cases h
    | true =>
     rw [hk] at h;simp only [cond_true] at h;cases h;have hC0:∀ c∈C0,c:=fun c hc=>hC c (Qxu _ hc);have hC1:∀ c∈C1,c:=fun c hc=>hC c (Qxt _ (Qxu _ hc));have hC2:∀ c∈C2,c:=fun c hc=>hC c (Qxt _ (Qxt _ hc));unfold Qgk at hk;simp only [Qxo] at hk;obtain ⟨⟨⟨⟨⟨⟨⟨⟨⟨⟨k0,k1⟩,k2⟩,k3⟩,k4⟩,k5⟩,k6⟩,k7⟩,k8⟩,k9⟩,k10⟩:=hk;obtain ⟨a1,a2,a3⟩:=Vk a5s h1 hC1;obtain ⟨b1,b2,b3⟩:=Qcs h2 hC2;have eσ:Ext τ' σ:=by rw [<- hτ];exact QdE _ _ _
     obtain ⟨c1,c2⟩:=b3 τ' eσ;intro a w K Q ⟨φ,Pub,I,h0',hn,hs⟩ hK;rw [if_pos (by rfl)];obtain ⟨us,hx1,hx2⟩:=hx a w φ Pub hs;obtain ⟨f1,Pub',I',H,hA⟩:=QhT S I hs hx2 h0 hC0
     have hall:∀ q x,(q,x)∈obs hin->(look OB.dead (obs hin) q).alive=true:=fun q x hm=>by
      obtain ⟨eb,m1,m2⟩:=Qgl hm;rw [Q9,ZS,QaC k8 m1]
      have hd':∀ (l:List (Nat×EB)) (T T':List (Nat×Nat)) (C:List Prop),QeM (F++bs) T l=some (C,T')->(q,eb)∈l->eb.alive=true:=by
       intro l
       induction l with
       | nil=>intro _ _ _ _ hm;cases hm
       | cons p l ih =>
        intro T T' C hh hm;obtain ⟨q0,y⟩:=p;unfold QeM at hh
        cases hdm:Q6 q0 T with
        | false=>rw [hdm] at hh;cases hh
        | true =>
         rw [hdm] at hh;simp only [cond_true] at hh;split at hh
         ·next Ca Ta hfa =>
          split at hh
          ·next Cb Tb hfb =>
           rcases Qxq.1 hm with e | e
           ·cases e;cases eb <;> first | rfl | (simp only [Qcl] at hfa;cases hfa)
           ·exact ih _ _ _ hfb e
          ·cases hh
         ·cases hh
      exact hd' hin _ _ _ h2 m1
     have I1:Inv E kp φ Pub' (sgH τ' (obs hin)++obs (F++st.heap)) w:=by
      refine QnI I' k1 c1 (fun q hq=>?_) hall;have e1:look OB.dead (obs hin) q=(look EB.dead hin q).ob:=Q9 _ _;rw [e1,ZS] at hq;have g:=c2 q hq;rw [e1]
      have e2:(look EB.dead (F++bs) (sg τ' q)).ob=look OB.dead (obs (F++st.heap)) (sg τ' q):=by
       have g1:=g.1;rw [Q1,<- Q9,Q1,Qv,Qv]
       cases hkk:QD (sg τ' q) (obs F) with
       | true=>rw [if_pos rfl,if_pos rfl]
       | false =>
        rw [if_neg (by simp),if_neg (by simp)];have e3:look OB.dead (obs bs) (sg τ' q)=(ob_ bs (sg τ' q)).ob:=Q9 _ _;rw [e3]
        have hne:ob_ bs (sg τ' q)≠.dead:=fun e4=>by
         rw [<- Q9,Q1,Qv,if_neg (by rw [hkk];simp),e3,e4] at g1;cases g1
        exact (S.ob rfl hne).symm
      rw [<- e2];exact g
     have hA':RAs w Pub' φ (sgL τ' (avL a5s)) (args.toList.map a.eval++us):=(a3 τ' (eσ.trans b1)).R hA
     have hsame:∀ (l:List (Nat×EB)),(∀ q x,(q,x)∈l->(q,x)∈hin)->Qhq ⟨st.as.slots,sgH τ' (obs hin)++obs (F++st.heap)⟩ τ' (obs l):=by
      intro l
      induction l with
      | nil=>intro _;trivial
      | cons p l ih =>
       intro hl;obtain ⟨q,x⟩:=p;have hm:=hl q x (by simp);have hal:=hall q x.ob (QdG hm);refine ⟨?_,?_,ih fun q' x' h'=>hl q' x' (Qxp _ h')⟩
       ·show look OB.dead (sgH τ' (obs hin)++obs (F++st.heap)) (sg τ' q)=x.ob.sg τ';have e1:look OB.dead (obs hin) q=x.ob:=by rw [Q9,QaC k8 hm]
        rw [Qv,if_pos,Qan k1 ((Zp c1).2 hal) c1,e1];have:=QdF (σ:=τ') hm;rw [<- QdB];exact QhV (QdG this)
       ·have e1:look OB.dead (obs hin) q=x.ob:=by rw [Q9,QaC k8 hm]
        rw [e1] at hal;exact hal
     have hxx:=Qvs (P:=P) (E:=E) (kp:=kp) (n:=n) (st:=⟨st.as.slots,sgH τ' (obs hin)++obs (F++st.heap)⟩) (args:=args.toList) (argTypes:=argTypes) (ty:=ty) (ps:=ps) (af:=af) (d:=dst) (Q:=Q) (K:=K) τ' hc hev (hsame hin fun _ _ h=>h) (by
      simp only [Qxo];refine ⟨⟨⟨⟨⟨k1,k2⟩,c1⟩,k4⟩,k5⟩,QhU fun p hp=>?_⟩;by_cases hal:(look OB.dead (obs hin) p.1).alive=true
      ·exact .inl hal
      ·refine .inr ?_;have kp10:=List.all_eq_true.1 k10 p hp;simp only [Qxr,Qxo,Qxx] at kp10;have eal:(look EB.dead hin p.1).alive=(look OB.dead (obs hin) p.1).alive:=by rw [Q9,ZS]
       rw [eal] at kp10;rcases kp10 with kp10 | ⟨g1,g2⟩
       ·exact absurd kp10 hal
       ·have e1:=Qwb k1 hp;have m1:=QdF (σ:=τ') (Qe7 g1);rw [e1] at m1
        have hfr:st.free kp p.2=true:=by
         rcases hf _ (Qxu _ m1) with q | q
         ·rw [g2] at q;cases q
         ·exact q
        have hfs:=Qu (st:=st.as) (kp:=kp) (r:=p.2) (by rw [Wz];exact hfr)
        have inj:∀ q,(look OB.dead (obs hin) q).alive=true->sg τ' q≠p.2:=fun q hq e=>by
         have hdq:=(Zp c1).2 hq
         have hdp:Q6 p.1 τ'=true:=by
          have:∀ (l:List (Nat×Nat)),p∈l->Q6 p.1 l=true:=by
           intro l
           induction l with
           | nil=>intro hm;cases hm
           | cons z l ih =>
            intro hm;rcases Qxq.1 hm with e | e
            ·subst e;simp [Q6]
            ·simp [Q6,ih e]
          exact this _ hp
         have k:=Z8 k1 hdq;rw [e,<- e1,Z8 k1 hdp] at k;injection k with k;subst k;exact hal hq
        refine Jf ?_ ?_ hfs.2.2.1 hfs.2.2.2
        ·show (look OB.dead (sgH τ' (obs hin)++obs (F++st.heap)) p.2).alive=false;rw [Qv,if_neg,Q1,Qv,if_neg]
         ·exact hfs.1
         ·intro hkk;have:∃ eb,(p.2,eb)∈F:=QhW hkk;obtain ⟨eb,hm⟩:=this;obtain ⟨c,T,sz,_,⟨p',q1⟩ | ⟨avs',q1⟩ | ⟨avs',ns',q1⟩⟩:=f1 _ _ hm
          ·rw [<- ZS,q1] at g2;cases g2
          ·rw [<- ZS,q1] at g2;cases g2
          ·rw [<- ZS,q1] at g2;cases g2
         ·intro hkk;obtain ⟨q,x,hm,e⟩:=Qb2 hkk;exact inj q (hall q x hm) e
        ·show WF p.2 (sgH τ' (obs hin)++obs (F++st.heap))=false;rw [ZJ,Q1,ZJ,Qgo f1,Qxy];have e2:WF p.2 (obs st.heap)=false:=hfs.2.1;rw [e2,Bool.or_false]
         cases hq:WF p.2 (sgH τ' (obs hin)) with
         | false=>rfl
         | true =>
          obtain ⟨q,q1,q2⟩:=XN k0 hq
          exact absurd q2 (inj q q1)) (by rw [Qxo];exact ⟨k6,k7⟩) hd I1 h0' hn (fun s=>QF H _ _ (fun _ _=>rfl) (hs s)) hx1 hA' (fun a' w' hsat=>hK a' w' (by
      refine hsat.congr (fun s=>?_) (fun r=>?_)
      ·cases dst with
       | none=>rfl
       | some x =>
        show look AV.any ((x,(res.sg τ').av)::avs st.slots) s=look AV.any ((x,res.av.sg τ')::avs st.slots) s;rw [QpU]
      ·show look OB.dead (obs (QhO τ' hout++(QhP τ' hin++F)++st.heap)) r=look OB.dead (sgH τ' (obs hout)++(Zx τ' (obs hin)++(sgH τ' (obs hin)++obs (F++st.heap)))) r;rw [Q1,Q1,QdB,Q1,Qe6,Q1,Qxv,Qxv,Qv _ r (sgH τ' (obs hout)),Qv _ r (sgH τ' (obs hout))];split
       ·rfl
       ·rw [Qv _ r (Zx τ' (obs hin)),Qv _ r (Zx τ' (obs hin))];split
        ·rfl
        ·next hnk=>rw [Qv _ r (sgH τ' (obs hin)),if_neg (by rw [<- QaD];exact hnk)]))
     have ea:args.toList.toArray=args:=by simp
     rw [ea] at hxx;exact hxx
theorem Qp1 {f:FuncId} {dst:Option Nat} {args:Array Operand} {argTypes:Array TypeId} {hin hout:List (Nat×EB)} {a5s:List EV} {res:EV} {R:RS} (S:Sub vs bs st) (hc:QX P f=true) (hev:Ct P f hin a5s hout res)
  (h:Qb1 vs bs dst args.toList [] hin a5s hout res=some R) (hC:∀ c∈R.C,c) (hf:∀ p∈R.hp,(ob_ bs p.1).alive=true\/st.free kp p.1=true) (hd:∀ x,dst=some x->Nat.blt x n=true) :
  Qd P E kp n ops ⟨dst,.call { callee:=.value (.func f),args:=args,argTypes },ty,ps,af,none⟩ st.as (R.app st).as :=
 Qe8 S hc hev (fun a w φ Pub hs=>⟨[],rfl,by unfold avL RAs;rfl⟩) h hC hf hd
def Ql6 (vs:List (Nat×EV)) (o:Oper):Option (FuncId×List Operand×List EV) :=
 match o.op with
 | .call ⟨.value (.tmp t),args,_⟩=>match look .any vs t with
  | .fn f caps=>bif shL caps then some (f,args.toList,caps) else none
  | .v (.func (.func f) ⟨[]⟩ ⟨[]⟩)=>some (f,args.toList,[])
  | _=>none
 | _=>none
theorem QhX {vs:List (Nat×EV)} {o:Oper} {f:FuncId} {args:List Operand} {ce:List EV} (h:Ql6 vs o=some (f,args,ce)):∃ t a T,o.op=.call { callee:=.value (.tmp t),args:=a,argTypes:=T }/\a.toList=args/\(look .any vs t=.fn f ce\/(look .any vs t=.v (.func (.func f) #[] #[])/\ce=[]))/\shL ce=true:=by
 unfold Ql6 at h;split at h
 ·next t a T ho =>
  split at h
  ·next f' caps hl =>
   cases hs:shL caps with
   | false=>rw [hs] at h;cases h
   | true=>rw [hs] at h;cases h;exact ⟨t,a,T,ho,rfl,.inl hl,hs⟩
  ·next f' hl=>cases h;exact ⟨t,a,T,ho,rfl,.inr ⟨hl,rfl⟩,rfl⟩
  ·cases h
 ·cases h
theorem QhY {t:Nat} {f:FuncId} {ce:List EV} {a:Act} {w:World} {φ:Qi} {Pub:Nat->Nat->Prop} (S:Sub vs bs st) (hl:look .any vs t=.fn f ce\/(look .any vs t=.v (.func (.func f) #[] #[])/\ce=[])) (hs:shL ce=true)
  (hr:∀ s,RA w Pub φ (look .any st.as.slots s) (a.tmps.getD s undef)):∃ us:List Value,a.eval (.tmp t)=.func (.func f) #[] us.toArray/\RAs w Pub φ (avL ce) us:=by
 have k:=S.v (.tmp t) _ _ _ _ (Za (h:=st.as.heap) hr (.tmp t));rcases hl with hl | ⟨hl,rfl⟩
 ·have e:Ql vs (.tmp t)=.fn f ce:=hl;rw [e] at k;unfold EV.av RA RP at k;obtain ⟨us,e1,e2⟩:=k;exact ⟨us,e1,(ZT ce us hs).2 e2⟩
 ·have e:Ql vs (.tmp t)=.v (.func (.func f) #[] #[]):=hl;rw [e] at k;unfold EV.av RA RP at k;exact ⟨[],k,by unfold avL RAs;rfl⟩
theorem QnJ {t:Nat} {f:FuncId} {dst:Option Nat} {args:Array Operand} {ce:List EV} {argTypes:Array TypeId} {hin hout:List (Nat×EB)} {a5s:List EV} {res:EV} {R:RS} (S:Sub vs bs st) (hc:QX P f=true) (hev:Ct P f hin a5s hout res) (hl:look .any vs t=.fn f ce\/(look .any vs t=.v (.func (.func f) #[] #[])/\ce=[])) (hs:shL ce=true)
  (h:Qb1 vs bs dst args.toList ce hin a5s hout res=some R) (hC:∀ c∈R.C,c) (hf:∀ p∈R.hp,(ob_ bs p.1).alive=true\/st.free kp p.1=true) (hd:∀ x,dst=some x->Nat.blt x n=true) :
  Qd P E kp n ops ⟨dst,.call { callee:=.value (.tmp t),args:=args,argTypes },ty,ps,af,none⟩ st.as (R.app st).as:=by
 exact Qe8 S hc hev (fun a w φ Pub hr=>QhY S hl hs hr) h hC hf hd
mutual
def WA:EV->Bool
 | .v _=>true
 | .u8 _=>true
 | .u32 _=>true
 | .u64 _=>true
 | .agg l=>QdH l
 | .tup l=>QdH l
 | .lz n _ _=>Nat.beq n 0
 | _=>false
def QdH:List EV->Bool
 | []=>true
 | x::xs=>WA x && QdH xs
end
mutual
theorem Ql7 {w w':World} {Pub Pub':Nat->Nat->Prop} {φ φ':Qi}:∀ (x:EV) (u:Value),WA x=true->RA w Pub φ x.av u->RA w' Pub' φ' x.av u
 | .v x,u,_,h=>by unfold EV.av RA RP at h ⊢;exact h
 | .u8 x,u,_,h=>by unfold EV.av RA b8P RP at h ⊢;exact h
 | .u32 x,u,_,h=>by unfold EV.av RA Qhy RP at h ⊢;exact h
 | .u64 x,u,_,h=>by unfold EV.av RA Qj6 RP at h ⊢;exact h
 | .agg l,u,hp,h=>by
  unfold WA at hp;unfold EV.av RA at h ⊢;obtain ⟨vs,e,k⟩:=h;exact ⟨vs,e,QdI l vs hp k⟩
 | .tup l,u,hp,h=>by
  unfold WA at hp;unfold EV.av RA at h ⊢;obtain ⟨vs,e,k⟩:=h;exact ⟨vs,e,QdI l vs hp k⟩
 | .az _ _,_,hp,_=>by simp [WA] at hp
 | .bs _,_,hp,_=>by simp [WA] at hp
 | .lz n sz g,u,hp,h=>by
  unfold WA at hp;obtain rfl:=Nat.eq_of_beq_eq_true hp;unfold EV.av RA EV.pv RP at h ⊢;obtain ⟨a,c,e,h1,h2,h3,_⟩:=h;exact ⟨a,c,e,h1,h2,h3,.inl rfl⟩
 | .pp _ _,_,hp,_=>by simp [WA] at hp
 | .pb _ _,_,hp,_=>by simp [WA] at hp
 | .pz _ _ _ _ _,_,hp,_=>by simp [WA] at hp
 | .raw _,_,hp,_=>by simp [WA] at hp
 | .sl _ _,_,hp,_=>by simp [WA] at hp
 | .po _ _ _ _,_,hp,_=>by simp [WA] at hp
 | .own _ _,_,hp,_=>by simp [WA] at hp
 | .osl _ _,_,hp,_=>by simp [WA] at hp
 | .fn _ _,_,hp,_=>by simp [WA] at hp
 | .rp _,_,hp,_=>by simp [WA] at hp
 | .mref _,_,hp,_=>by simp [WA] at hp
 | .oss _ _ _ _,_,hp,_=>by simp [WA] at hp
 | .cnd _ _,_,hp,_=>by simp [WA] at hp
 | .any,_,hp,_=>by simp [WA] at hp
theorem QdI {w w':World} {Pub Pub':Nat->Nat->Prop} {φ φ':Qi}:∀ (l:List EV) (us:List Value),QdH l=true->RAs w Pub φ (avL l) us->RAs w' Pub' φ' (avL l) us
 | [],us,_,h=>by unfold avL RAs at h ⊢;exact h
 | x::xs,us,hp,h=>by
  unfold QdH at hp;rw [Qxo] at hp;unfold avL RAs at h ⊢;obtain ⟨u,vs,e,k1,k2⟩:=h;exact ⟨u,vs,e,Ql7 x u hp.1 k1,QdI xs vs hp.2 k2⟩
end
def Qp2 (vs:List (Nat×EV)) (bs:List (Nat×EB)) (args:List Operand) (ce:List EV) (a5s:List EV) (res:EV):Option (List Prop) :=
 match Ql0 vs bs args ce a5s with
 | some (C0,l,_)=>match JD [] l a5s with
  | some (C1,[])=>bif WA res && Vf [] (avL a5s) then some (C0++C1) else none
  | _=>none
 | none=>none
mutual
theorem Qkp:∀ x:AV,x.inD []=true->x.sg []=x
 | .p x,_=>by unfold AV.sg;rfl
 | .agg l,h=>by unfold AV.inD at h;unfold AV.sg;rw [Qcu l h]
 | .tup l,h=>by unfold AV.inD at h;unfold AV.sg;rw [Qcu l h]
 | .own q off,h=>by unfold AV.inD at h;cases h
 | .osl q m,h=>by unfold AV.inD at h;cases h
 | .cnd g x,h=>by unfold AV.inD at h;unfold AV.sg;rw [Qkp x h]
 | .any,_=>by unfold AV.sg;rfl
theorem Qcu:∀ l:List AV,Vf [] l=true->sgL [] l=l
 | [],_=>rfl
 | x::xs,h=>by
  unfold Vf at h;rw [Qxo] at h;unfold sgL;rw [Qkp x h.1,Qcu xs h.2]
end
theorem QbA {f:FuncId} {dst:Nat} {args:Array Operand} {ce:List EV} {argTypes:Array TypeId} {a5s:List EV} {res:EV} {C:List Prop} (S:Sub vs bs st) (hc:QX P f=true) (hev:Ct P f [] a5s [] res)
  {x:Operand} (hx:∀ (a:Act) (w:World) (φ:Qi) (Pub:Nat->Nat->Prop),(∀ s,RA w Pub φ (look .any st.as.slots s) (a.tmps.getD s undef))->∃ us:List Value,a.eval x=.func (.func f) #[] us.toArray/\RAs w Pub φ (avL ce) us)
  (h:Qp2 vs bs args.toList ce a5s res=some C) (hC:∀ c∈C,c) (hd:Nat.blt dst n=true) :
  Qd P E kp n ops ⟨some dst,.call { callee:=.value x,args:=args,argTypes },ty,ps,af,none⟩ st.as (st.as.put dst res.av):=by
 unfold Qp2 at h;split at h
 ·next C0 l F h0 =>
  split at h
  ·next C1 h1 =>
   obtain ⟨hk,h⟩:=QA h;cases h;rw [Qxo] at hk;have hC0:∀ c∈C0,c:=fun c hc=>hC c (Qxu _ hc);have hC1:∀ c∈C1,c:=fun c hc=>hC c (Qxt _ hc);obtain ⟨a1,a2,a3⟩:=Vk a5s h1 hC1;intro a w K Q ⟨φ,Pub,I,h0',hn,hs⟩ hK;rw [if_pos (by rfl)];obtain ⟨us,hx1,hx2⟩:=hx a w φ Pub hs;obtain ⟨f1,Pub',I',H,hA⟩:=QhT S I hs hx2 h0 hC0;have hA':=(a3 [] (Ext.refl _)).R hA;rw [Qcu _ hk.2] at hA'
   let E1:Env:=⟨w,fun _=>False,Pub',φ,I'.amb,fun _ _ h=>h⟩
   have hdead:∀ q,(look OB.dead ([]:List (Nat×OB)) q).alive=true->False:=fun q h=>by cases h
   have I1:Inv E1 [] φ Pub' [] w:=⟨rfl,rfl,rfl,QxA _,fun _ _ _=>rfl,fun q=>trivial,fun q b c hq _=>(hdead q hq).elim,fun q _ b c c' hq _ _ _=>(hdead q hq).elim,fun _ _ h=>h,fun _ _ h=>.inl h,I'.publ,fun _ _ _=>rfl,fun _ h=>by cases h⟩;have hcall:=hev E1 φ Pub' w (args.toList.map a.eval++us) rfl rfl I1 hA'
   have hrun:(execOp a.eval ⟨some dst,.call { callee:=.value x,args:=args,argTypes },ty,ps,af,none⟩).run P w=.ok (.enter f (args.toList.map a.eval++us).toArray) w:=by
    simp [execOp,resolve,hx1,Deferred.ofValue,invoke,Qag hc]
   unfold Oper.wp;rw [hrun];show Calls P f _ w _;refine hcall.mono ?_;rintro e w' ⟨v,φ2,Pub2,rfl,I2,hR⟩;refine hK _ _ ?_;have hblk:∀ b,b < w.heap.size->w'.heap[b]? = w.heap[b]?:=fun b hb=>I2.block b hb (fun h=>h);have H2:Adv w Pub w' Pub:=fun b i hp=>⟨hp,World.cell?_of_block (a:=⟨b,i,none⟩) (hblk b (I.publ b i hp))⟩;have I3:Inv E kp φ Pub st.as.heap w':=I.next I2.os I2.tape I2.output I2.size (fun b hb _=>hblk b (Nat.lt_of_lt_of_le hb I.size)) H2 (fun _ _ h=>.inl h) (fun b i h=>Nat.lt_of_lt_of_le (I.publ b i h) I2.size)
    (fun q hq=>ZO H2 (fun b c hb=>⟨hblk b (I.lt hq hb),fun _ h=>h⟩) rfl (fun _ _=>rfl) (I.own q)) I.mine I.inj (fun _ _=>rfl)
   exact Sat.put I3 h0' hn (fun s=>QF H2 _ _ (fun _ _=>rfl) (hs s)) hd (Ql7 res v hk.1 hR)
  ·cases h
 ·cases h
end
end
end Go.Proofs.YtcebndkiagbddaaGreatDoor
