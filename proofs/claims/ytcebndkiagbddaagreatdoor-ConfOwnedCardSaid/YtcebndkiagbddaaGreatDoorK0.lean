/- A part of the proof: contracts of functions and what they stand on. Written shorter and merged by a program (pack.py). -/
import Derived.Below
import Derived.WalkKit
import Derived.RegionTactic
import Derived.OrdersHeld
import Derived.Laws.AppendOwn
import Derived.Laws.AppendOwnNone
import Derived.Deep.MidRow
import Derived.Laws.Append
import Derived.Laws.Tables
import Derived.Deep.LoopGhost
import Derived.Laws.BytesString
import Derived.Laws.MakeOwn
import Derived.IntWalk
set_option linter.unusedVariables false
set_option linter.unusedSimpArgs false
set_option maxRecDepth 100000
set_option maxHeartbeats 4000000
open Array renaming getElem?_eq_some_iff -> Qxo, length_toList -> Qxr, getElem?_toList -> Qxz
open List renaming eq_nil_of_length_eq_zero -> Qxp, getElem?_take_of_lt -> Qxq, length_append -> Qxs, length_cons -> Qxv, take_of_length_le -> Qxx, contains_iff_mem -> Qxy, mem_of_getElem? -> QxB, take_succ_cons -> QxD, set_cons_zero -> QxE, set_cons_succ -> QxF, getElem?_take -> QxG
open Nat renaming le_refl -> Qxt, beq -> Qxu, zero_add -> Qxw, mul_le_mul_right -> QxC, add_mul -> QxH
open Bool renaming or_eq_false_iff -> QxA
namespace Go.Proofs.YtcebndkiagbddaaGreatDoor
section
open Go.RowKit
inductive PV where
 | v (x:Value)
 | agg (l:List PV)
 | tup (l:List PV)
 | pp (cells:List PV) (off:Nat)
 | sl (cells:List PV) (n:Nat)
 | fn (f:FuncId) (caps:List PV)
inductive AV where
 | p (x:PV)
 | agg (l:List AV)
 | tup (l:List AV)
 | own (r off:Nat)
 | osl (r n:Nat)
 | mref (r:Nat)
 | oss (r k n sz:Nat)
 | cnd (g:Bool) (x:AV)
 | any
inductive OB where
 | box (cells:List AV) (t:TypeId)
 | row (cells:List PV) (t:TypeId) (sz pub:Nat)
 | ra (cells:List AV) (t:TypeId) (sz:Nat) (ns:List Nat)
 | obj (p:Obj->Prop)
 | it (m since:Nat) (seen:Array Nat) (last:Nat)
 | dead
def OB.alive:OB->Bool
 | .dead=>false
 | _=>true
abbrev Qi:=Nat->Option (Nat×Nat)
section
variable (w:World) (Pub:Nat->Nat->Prop)
mutual
def RP:PV->Value->Prop
 | .v x,u=>u=x
 | .agg l,u=>∃ vs:List Value,u=.agg vs.toArray/\RPs l vs
 | .tup l,u=>∃ vs:List Value,u=.tuple vs.toArray/\RPs l vs
 | .pp cells off,u=>∃ b o,u=.pointer (some ⟨b,o+off,none⟩)/\RPc cells b o
 | .sl cells n,u=>∃ a c,u=.slice a n c/\n<=c/\c<=maxLen/\(a=none->c=0)/\(n=0\/∃ b o,a=some ⟨b,o,none⟩/\RPc cells b o)
 | .fn f caps,u=>∃ vs:List Value,u=.func (.func f) #[] vs.toArray/\RPs caps vs
def RPs:List PV->List Value->Prop
 | [],vs=>vs=[]
 | p::ps,vs=>∃ u us,vs=u::us/\RP p u/\RPs ps us
def RPc:List PV->Nat->Nat->Prop
 | [],_,_=>True
 | p::ps,b,o=>(∃ u,w.cell? ⟨b,o,none⟩=some u/\Pub b o/\u.oneCell'=true/\RP p u)/\RPc ps b (o+1)
end
variable (φ:Qi)
mutual
def RA:AV->Value->Prop
 | .p x,u=>RP w Pub x u
 | .agg l,u=>∃ vs:List Value,u=.agg vs.toArray/\RAs l vs
 | .tup l,u=>∃ vs:List Value,u=.tuple vs.toArray/\RAs l vs
 | .own r off,u=>∃ b c,φ r=some (b,c)/\u=.pointer (some ⟨b,off,none⟩)
 | .osl r n,u=>(∃ b c,φ r=some (b,c)/\u=.slice (some ⟨b,0,none⟩) n c/\n<=c)\/(φ r=none/\n=0/\u=.slice none 0 0)
 | .mref r,u=>∃ b,φ r=some (b,1)/\u=.map (some b)
 | .oss r k n sz,u=>(∃ b c o c',φ r=some (b,c)/\u=.slice (some ⟨b,o,none⟩) n c'/\(n≠0->o=k * sz)/\k+n<=c/\n<=c')\/(φ r=none/\k=0/\n=0/\u=.slice none 0 0)
 | .cnd g x,u=>(g=true->RA x u)/\(g=false->u=undef)
 | .any,_=>True
def RAs:List AV->List Value->Prop
 | [],vs=>vs=[]
 | p::ps,vs=>∃ u us,vs=u::us/\RA p u/\RAs ps us
end
def Qhb (t:TypeId) (n:Nat) (fr:Nat×Nat):Prop:=fr=(0,0)\/(n<=fr.1/\t=5)
def loc (ns:List Nat):Qi:=fun j=>match ns[j]? with
 | some q=>φ q
 | none=>none
def Hp (r:Nat):OB->Prop
 | .dead=>True
 | .ra cells t sz ns=>(φ r=none/\cells=[])\/∃ b c cur fr,φ r=some (b,c)/\(w.heap[b]? = some (.cells cur t fr)/\Qhb t cur.size fr)/\c<=maxLen/\cur.size=c * sz/\cells.length<=cur.size /\
   RAs w Pub (loc φ ns) cells (cur.toList.take cells.length)/\(∀ u∈cur.toList.take cells.length,u.oneCell'=true) /\ ∀ i,¬ Pub b i
 | .obj p=>∃ b o,φ r=some (b,1)/\w.heap[b]? = some o/\p o /\ ∀ i,¬ Pub b i
 | .it m since seen last=>∃ b bm,φ r=some (b,1)/\φ m=some (bm,1)/\w.heap[b]? = some (.mapIter (some bm) since seen last) /\ ∀ i,¬ Pub b i
 | .box cells t=>∃ b cur,φ r=some (b,1)/\w.heap[b]? = some (.cells cur t (0,0))/\RAs w Pub φ cells cur.toList/\(∀ u∈cur.toList,u.oneCell'=true) /\ ∀ i,¬ Pub b i
 | .row cells t sz pub=>(φ r=none/\cells=[])\/∃ b c cur fr,φ r=some (b,c)/\(w.heap[b]? = some (.cells cur t fr)/\Qhb t cur.size fr)/\c<=maxLen/\cur.size=c * sz/\cells.length<=cur.size /\
   RPs w Pub cells (cur.toList.take cells.length)/\(∀ u∈cur.toList.take cells.length,u.oneCell'=true) /\ ∀ i,Pub b i->i < pub/\i < cells.length
end
def look {α:Type} (d:α):List (Nat×α)->Nat->α
 | [],_=>d
 | (k,x)::r,s=>bif Qxu k s then x else look d r s
theorem Qb {α:Type} (d:α) (k:Nat) (x:α) (r:List (Nat×α)) (s:Nat):look d ((k,x)::r) s=if k=s then x else look d r s:=by
 by_cases h:k=s
 ·subst h;simp [look]
 ·have:Qxu k s=false:=by
   cases hb:Qxu k s
   ·rfl
   ·exact absurd (Nat.eq_of_beq_eq_true hb) h
  rw [if_neg h];simp only [look,this];rfl
structure AS where
 slots:List (Nat×AV)
 heap:List (Nat×OB)
def AS.put (st:AS) (d:Nat) (x:AV):AS:=⟨(d,x)::st.slots,st.heap⟩
def AS.set (st:AS) (r:Nat) (x:OB):AS:=⟨st.slots,(r,x)::st.heap⟩
def AS.at_ (st:AS) (s:Nat):AV:=look .any st.slots s
def AS.ob (st:AS) (r:Nat):OB:=look .dead st.heap r
def AS.ev (st:AS):Operand->AV
 | .tmp t=>look .any st.slots t
 | .const c=>.p (.v c)
 | .func f=>.p (.v (.func (.func f) #[] #[]))
 | .global _=>.any
def QfO:List (Nat×List Value):=[(1,[.int .u64 1,.int .u64 10,.int .u64 100,.int .u64 1000,.int .u64 10000,.int .u64 100000,.int .u64 1000000,.int .u64 10000000,.int .u64 100000000,.int .u64 1000000000,.int .u64 10000000000,.int .u64 100000000000,.int .u64 1000000000000,.int .u64 10000000000000,.int .u64 100000000000000,.int .u64 1000000000000000,.int .u64 10000000000000000,.int .u64 100000000000000000,.int .u64 1000000000000000000,.int .u64 10000000000000000000])]
def Amb (w:World) (Pub:Nat->Nat->Prop):Prop:=∀ t∈QfO,(∀ i,Pub t.1 i)/\∃ ty fz,w.heap[t.1]? = some (.cells t.2.toArray ty fz)
theorem Amb.nil {w:World} {Pub:Nat->Nat->Prop} (h:QfO=[]):Amb w Pub:=fun t ht=>by rw [h] at ht;cases ht
theorem QvM {w:World} {Pub:Nat->Nat->Prop} {φ:Qi} {r b c:Nat}:∀ {o:OB},Hp w Pub φ r o->o.alive=true->φ r=some (b,c)->(∀ i,Pub b i)->False
 | .dead,_,h,_,_=>by cases h
 | .ra cs t sz ns,h,_,e,k=>by
  rcases h with ⟨e',_⟩ | ⟨b',c',cur,fr,e',_,_,_,_,_,_,h⟩
  ·rw [e] at e';cases e'
  ·rw [e] at e';cases e';exact h 0 (k 0)
 | .obj p,h,_,e,k=>by
  obtain ⟨b',o,e',_,_,h⟩:=h;rw [e] at e';cases e';exact h 0 (k 0)
 | .it m a s l,h,_,e,k=>by
  obtain ⟨b',bm,e',_,_,h⟩:=h;rw [e] at e';cases e';exact h 0 (k 0)
 | .box cs t,h,_,e,k=>by
  obtain ⟨b',cur,e',_,_,_,h⟩:=h;rw [e] at e';cases e';exact h 0 (k 0)
 | .row cs t sz pub,h,_,e,k=>by
  rcases h with ⟨e',_⟩ | ⟨b',c',cur,fr,e',_,_,_,_,_,_,h⟩
  ·rw [e] at e';cases e'
  ·rw [e] at e';cases e';exact absurd (h pub (k pub)).1 (Nat.lt_irrefl _)
structure Env where
 w0:World
 A:Nat->Prop
 Pub0:Nat->Nat->Prop
 φ0:Qi
 amb:Amb w0 Pub0
 ambA:∀ t∈QfO,¬ A t.1
structure Inv (E:Env) (kp:List Nat) (φ:Qi) (Pub:Nat->Nat->Prop) (h:List (Nat×OB)) (w:World):Prop where
 os:w.os=E.w0.os
 tape:w.tape=E.w0.tape
 output:w.output=E.w0.output
 size:E.w0.heap.size<=w.heap.size
 block:∀ b,b < E.w0.heap.size->¬ E.A b->w.heap[b]? = E.w0.heap[b]?
 own:∀ r,Hp w Pub φ r (look .dead h r)
 mine:∀ r b c,(look .dead h r).alive=true->φ r=some (b,c)->E.w0.heap.size<=b\/E.A b
 inj:∀ r r' b c c',(look .dead h r).alive=true->(look .dead h r').alive=true->φ r=some (b,c)->φ r'=some (b,c')->r=r'
 pub0:∀ b i,E.Pub0 b i->Pub b i
 pubs:∀ b i,Pub b i->E.Pub0 b i\/E.w0.heap.size<=b\/E.A b
 publ:∀ b i,Pub b i->b < w.heap.size
 same:∀ b i,E.Pub0 b i->w.cell? ⟨b,i,none⟩=E.w0.cell? ⟨b,i,none⟩
 kept:∀ r,r∈kp->φ r=E.φ0 r
theorem Inv.amb {E:Env} {kp:List Nat} {φ:Qi} {Pub:Nat->Nat->Prop} {h:List (Nat×OB)} {w:World} (I:Inv E kp φ Pub h w):Amb w Pub:=fun t ht=>by
 obtain ⟨a,ty,fz,b⟩:=E.amb t ht;exact ⟨fun i=>I.pub0 _ _ (a i),ty,fz,(I.block _ (Qxo.1 b).1 (E.ambA t ht)).trans b⟩
def Sat (E:Env) (kp:List Nat) (n:Nat) (st:AS) (a:Act) (w:World):Prop :=
 ∃ φ Pub,Inv E kp φ Pub st.heap w/\a.defers=[]/\a.tmps.size=n /\ ∀ s,RA w Pub φ (look .any st.slots s) (a.tmps.getD s undef)
def Adv (w:World) (Pub:Nat->Nat->Prop) (w':World) (Pub':Nat->Nat->Prop):Prop :=
 ∀ b i,Pub b i->Pub' b i/\w'.cell? ⟨b,i,none⟩=w.cell? ⟨b,i,none⟩
theorem Adv.refl (w:World) (Pub:Nat->Nat->Prop):Adv w Pub w Pub:=fun _ _ h=>⟨h,rfl⟩
theorem Adv.trans {w w1 w2:World} {P0 P1 P2:Nat->Nat->Prop} (h:Adv w P0 w1 P1) (k:Adv w1 P1 w2 P2):Adv w P0 w2 P2 :=
 fun b i hp=>⟨(k b i (h b i hp).1).1,((k b i (h b i hp).1).2).trans (h b i hp).2⟩
section
variable {w w':World} {Pub Pub':Nat->Nat->Prop}
mutual
theorem Qaa (H:Adv w Pub w' Pub'):∀ (x:PV) (u:Value),RP w Pub x u->RP w' Pub' x u
 | .v _,_,h=>by unfold RP at h ⊢;exact h
 | .agg l,_,h=>by
  unfold RP at h ⊢;obtain ⟨vs,e,h⟩:=h;exact ⟨vs,e,WE H l vs h⟩
 | .tup l,_,h=>by
  unfold RP at h ⊢;obtain ⟨vs,e,h⟩:=h;exact ⟨vs,e,WE H l vs h⟩
 | .pp cells off,_,h=>by
  unfold RP at h ⊢;obtain ⟨b,o,e,h⟩:=h;exact ⟨b,o,e,QcQ H cells b o h⟩
 | .sl cells n,_,h=>by
  unfold RP at h ⊢;obtain ⟨a,c,e,h1,h2,h2',h3⟩:=h;refine ⟨a,c,e,h1,h2,h2',h3.imp id ?_⟩;rintro ⟨b,o,e,h⟩;exact ⟨b,o,e,QcQ H cells b o h⟩
 | .fn f caps,_,h=>by
  unfold RP at h ⊢;obtain ⟨vs,e,h⟩:=h;exact ⟨vs,e,WE H caps vs h⟩
theorem WE (H:Adv w Pub w' Pub'):∀ (l:List PV) (vs:List Value),RPs w Pub l vs->RPs w' Pub' l vs
 | [],_,h=>by unfold RPs at h ⊢;exact h
 | p::ps,_,h=>by
  unfold RPs at h ⊢;obtain ⟨u,us,e,h1,h2⟩:=h;exact ⟨u,us,e,Qaa H p u h1,WE H ps us h2⟩
theorem QcQ (H:Adv w Pub w' Pub'):∀ (l:List PV) (b o:Nat),RPc w Pub l b o->RPc w' Pub' l b o
 | [],_,_,h=>by unfold RPc;trivial
 | p::ps,b,o,h=>by
  unfold RPc at h ⊢;obtain ⟨⟨u,hc,hp,h1,hr⟩,ht⟩:=h;exact ⟨⟨u,((H b o hp).2).trans hc,(H b o hp).1,h1,Qaa H p u hr⟩,QcQ H ps b (o+1) ht⟩
end
mutual
def AV.has (r:Nat):AV->Bool
 | .p _=>false
 | .agg l=>YC r l
 | .tup l=>YC r l
 | .own q _=>Qxu q r
 | .osl q _=>Qxu q r
 | .mref q=>Qxu q r
 | .oss q _ _ _=>Qxu q r
 | .cnd _ x=>AV.has r x
 | .any=>false
def YC (r:Nat):List AV->Bool
 | []=>false
 | x::xs=>AV.has r x || YC r xs
end
variable {φ φ':Qi}
mutual
theorem QF (H:Adv w Pub w' Pub'):∀ (x:AV) (u:Value),(∀ r,AV.has r x=true->φ' r=φ r)->RA w Pub φ x u->RA w' Pub' φ' x u
 | .p x,u,_,h=>by unfold RA at h ⊢;exact Qaa H x u h
 | .agg l,_,hn,h=>by
  unfold RA at h ⊢;obtain ⟨vs,e,h⟩:=h;exact ⟨vs,e,WR H l vs (fun r hr=>hn r (by unfold AV.has;exact hr)) h⟩
 | .tup l,_,hn,h=>by
  unfold RA at h ⊢;obtain ⟨vs,e,h⟩:=h;exact ⟨vs,e,WR H l vs (fun r hr=>hn r (by unfold AV.has;exact hr)) h⟩
 | .own r off,_,hn,h=>by
  unfold RA at h ⊢;rw [hn r (by unfold AV.has;simp)];exact h
 | .osl r n,_,hn,h=>by
  unfold RA at h ⊢;rw [hn r (by unfold AV.has;simp)];exact h
 | .mref r,_,hn,h=>by
  unfold RA at h ⊢;rw [hn r (by unfold AV.has;simp)];exact h
 | .oss r _ _ _,_,hn,h=>by
  unfold RA at h ⊢;rw [hn r (by unfold AV.has;simp)];exact h
 | .cnd g x,u,hn,h=>by
  unfold RA at h ⊢;exact ⟨fun hg=>QF H x u (fun r hr=>hn r (by unfold AV.has;exact hr)) (h.1 hg),h.2⟩
 | .any,_,_,_=>by unfold RA;trivial
theorem WR (H:Adv w Pub w' Pub'):∀ (l:List AV) (vs:List Value),(∀ r,YC r l=true->φ' r=φ r)->RAs w Pub φ l vs->RAs w' Pub' φ' l vs
 | [],_,_,h=>by unfold RAs at h ⊢;exact h
 | p::ps,_,hn,h=>by
  unfold RAs at h ⊢;obtain ⟨u,us,e,h1,h2⟩:=h;exact ⟨u,us,e,QF H p u (fun r hr=>hn r (by unfold YC;simp [hr])) h1,WR H ps us (fun r hr=>hn r (by unfold YC;simp [hr])) h2⟩
end
end
section
variable {w:World} {Pub:Nat->Nat->Prop}
theorem Wi:∀ {l:List PV} {vs:List Value},RPs w Pub l vs->vs.length=l.length
 | [],_,h=>by unfold RPs at h;subst h;rfl
 | p::ps,_,h=>by
  unfold RPs at h;obtain ⟨u,us,rfl,_,h⟩:=h;simp [Wi h]
theorem QfP:∀ {l:List PV} {vs:List Value} {i:Nat} {x:PV},RPs w Pub l vs->l[i]? = some x->∃ u,vs[i]? = some u/\RP w Pub x u
 | [],_,i,x,_,hx=>by simp at hx
 | p::ps,_,0,x,h,hx=>by
  unfold RPs at h;obtain ⟨u,us,rfl,h1,_⟩:=h;simp at hx;subst hx;exact ⟨u,rfl,h1⟩
 | p::ps,_,i+1,x,h,hx=>by
  unfold RPs at h;obtain ⟨u,us,rfl,_,h2⟩:=h;simp at hx;obtain ⟨u',h3,h4⟩:=QfP h2 hx;exact ⟨u',by simpa using h3,h4⟩
theorem Z5:∀ {l m:List PV} {vs us:List Value},RPs w Pub l vs->RPs w Pub m us->RPs w Pub (l++m) (vs++us)
 | [],m,vs,us,h,k=>by unfold RPs at h;subst h;simpa using k
 | p::ps,m,_,us,h,k=>by
  unfold RPs at h;obtain ⟨u,vs',rfl,h1,h2⟩:=h;show RPs w Pub (p::(ps++m)) (u::(vs'++us));unfold RPs;exact ⟨u,_,rfl,h1,Z5 h2 k⟩
theorem QcR:∀ {l:List PV} {vs:List Value} (k:Nat),RPs w Pub l vs->RPs w Pub (l.drop k) (vs.drop k)
 | l,vs,0,h=>by simpa using h
 | [],_,k+1,h=>by unfold RPs at h;subst h;simp [RPs]
 | p::ps,_,k+1,h=>by
  unfold RPs at h;obtain ⟨u,vs',rfl,h1,h2⟩:=h;simpa using QcR k h2
theorem Qab:∀ {l:List PV} {vs:List Value} (k:Nat),RPs w Pub l vs->RPs w Pub (l.take k) (vs.take k)
 | l,vs,0,h=>by simp [RPs]
 | [],_,k+1,h=>by unfold RPs at h;subst h;simp [RPs]
 | p::ps,_,k+1,h=>by
  unfold RPs at h;obtain ⟨u,vs',rfl,h1,h2⟩:=h;simp only [QxD];unfold RPs;exact ⟨u,_,rfl,h1,Qab k h2⟩
theorem QlC:∀ {l:List PV} {vs:List Value} (i:Nat) {x:PV} {u:Value},RPs w Pub l vs->RP w Pub x u->RPs w Pub (l.set i x) (vs.set i u)
 | [],_,_,_,_,h,_=>by unfold RPs at h;subst h;simp [RPs]
 | p::ps,_,0,x,u,h,k=>by
  unfold RPs at h;obtain ⟨u',vs',rfl,h1,h2⟩:=h;simp only [QxE];unfold RPs;exact ⟨u,_,rfl,k,h2⟩
 | p::ps,_,i+1,x,u,h,k=>by
  unfold RPs at h;obtain ⟨u',vs',rfl,h1,h2⟩:=h;simp only [QxF];unfold RPs;exact ⟨u',_,rfl,h1,QlC i h2 k⟩
theorem Jd:∀ {l:List PV} {b o i:Nat} {x:PV},RPc w Pub l b o->l[i]? = some x->∃ u,w.cell? ⟨b,o+i,none⟩=some u/\Pub b (o+i)/\u.oneCell'=true/\RP w Pub x u
 | [],_,_,_,_,_,hx=>by simp at hx
 | p::ps,b,o,0,x,h,hx=>by
  unfold RPc at h;simp at hx;subst hx;exact h.1
 | p::ps,b,o,i+1,x,h,hx=>by
  unfold RPc at h;have:=Jd (i:=i) h.2 (by simpa using hx);rw [show o+(i+1)=o+1+i from by omega];exact this
theorem Qbb:∀ {l:List PV} {b o:Nat},(∀ i x,l[i]? = some x->∃ u,w.cell? ⟨b,o+i,none⟩=some u/\Pub b (o+i)/\u.oneCell'=true/\RP w Pub x u)->RPc w Pub l b o
 | [],_,_,_=>by unfold RPc;trivial
 | p::ps,b,o,h=>by
  unfold RPc;refine ⟨h 0 p rfl,Qbb fun i x hx=>?_⟩;have:=h (i+1) x (by simpa using hx);rw [show o+1+i=o+(i+1) from by omega];exact this
theorem Qhc {l:List PV} {b o:Nat} (k:Nat) (h:RPc w Pub l b o):RPc w Pub (l.drop k) b (o+k) :=
 Qbb fun i x hx=>by
  rw [List.getElem?_drop] at hx;have:=Jd h hx;rw [show o+k+i=o+(k+i) from by omega];exact this
theorem Qhd {l:List PV} {b o:Nat} (k:Nat) (h:RPc w Pub l b o):RPc w Pub (l.take k) b o :=
 Qbb fun i x hx=>by
  by_cases hi:i < k
  ·rw [Qxq hi] at hx;exact Jd h hx
  ·rw [QxG,if_neg hi] at hx;cases hx
theorem Qac:∀ {l:List PV} {b o:Nat},RPc w Pub l b o->∃ vs:List Value,RPs w Pub l vs/\(∀ u∈vs,u.oneCell'=true) /\ ∀ j u,vs[j]? = some u->w.cell? ⟨b,o+j,none⟩=some u
 | [],_,_,_=>⟨[],by unfold RPs;rfl,by simp,by simp⟩
 | p::ps,b,o,h=>by
  unfold RPc at h;obtain ⟨⟨u,hc,_,h1,hr⟩,ht⟩:=h;obtain ⟨vs,h2,h3,h4⟩:=Qac ht;refine ⟨u::vs,by unfold RPs;exact ⟨u,vs,rfl,hr,h2⟩,?_,?_⟩
  ·intro x hx;rcases List.mem_cons.1 hx with rfl | hx
   ·exact h1
   ·exact h3 x hx
  ·intro j x hx
   cases j with
   | zero=>simp at hx;subst hx;exact hc
   | succ j=>rw [show o+(j+1)=o+1+j from by omega];exact h4 j x (by simpa using hx)
variable {φ:Qi}
theorem QU:∀ {l:List AV} {vs:List Value},RAs w Pub φ l vs->vs.length=l.length
 | [],_,h=>by unfold RAs at h;subst h;rfl
 | p::ps,_,h=>by
  unfold RAs at h;obtain ⟨u,us,rfl,_,h⟩:=h;simp [QU h]
theorem X7:∀ {l:List AV} {vs:List Value} {i:Nat} {x:AV},RAs w Pub φ l vs->l[i]? = some x->∃ u,vs[i]? = some u/\RA w Pub φ x u
 | [],_,i,x,_,hx=>by simp at hx
 | p::ps,_,0,x,h,hx=>by
  unfold RAs at h;obtain ⟨u,us,rfl,h1,_⟩:=h;simp at hx;subst hx;exact ⟨u,rfl,h1⟩
 | p::ps,_,i+1,x,h,hx=>by
  unfold RAs at h;obtain ⟨u,us,rfl,_,h2⟩:=h;simp at hx;obtain ⟨u',h3,h4⟩:=X7 h2 hx;exact ⟨u',by simpa using h3,h4⟩
theorem JO:∀ {l m:List AV} {vs us:List Value},RAs w Pub φ l vs->RAs w Pub φ m us->RAs w Pub φ (l++m) (vs++us)
 | [],m,vs,us,h,k=>by unfold RAs at h;subst h;simpa using k
 | p::ps,m,_,us,h,k=>by
  unfold RAs at h;obtain ⟨u,vs',rfl,h1,h2⟩:=h;show RAs w Pub φ (p::(ps++m)) (u::(vs'++us));unfold RAs;exact ⟨u,_,rfl,h1,JO h2 k⟩
theorem VC:∀ {l:List AV} {vs:List Value} (k:Nat),RAs w Pub φ l vs->RAs w Pub φ (l.drop k) (vs.drop k)
 | l,vs,0,h=>by simpa using h
 | [],_,k+1,h=>by unfold RAs at h;subst h;simp [RAs]
 | p::ps,_,k+1,h=>by
  unfold RAs at h;obtain ⟨u,vs',rfl,h1,h2⟩:=h;simpa using VC k h2
theorem VD:∀ {l:List AV} {vs:List Value} (k:Nat),RAs w Pub φ l vs->RAs w Pub φ (l.take k) (vs.take k)
 | l,vs,0,h=>by simp [RAs]
 | [],_,k+1,h=>by unfold RAs at h;subst h;simp [RAs]
 | p::ps,_,k+1,h=>by
  unfold RAs at h;obtain ⟨u,vs',rfl,h1,h2⟩:=h;simp only [QxD];unfold RAs;exact ⟨u,_,rfl,h1,VD k h2⟩
theorem QlD:∀ {l:List AV} {vs:List Value} (i:Nat) {x:AV} {u:Value},RAs w Pub φ l vs->RA w Pub φ x u->RAs w Pub φ (l.set i x) (vs.set i u)
 | [],_,_,_,_,h,_=>by unfold RAs at h;subst h;simp [RAs]
 | p::ps,_,0,x,u,h,k=>by
  unfold RAs at h;obtain ⟨u',vs',rfl,h1,h2⟩:=h;simp only [QxE];unfold RAs;exact ⟨u,_,rfl,k,h2⟩
 | p::ps,_,i+1,x,u,h,k=>by
  unfold RAs at h;obtain ⟨u',vs',rfl,h1,h2⟩:=h;simp only [QxF];unfold RAs;exact ⟨u',_,rfl,h1,QlD i h2 k⟩
def AV.toPs:List AV->Option (List PV)
 | []=>some []
 | .p x::r=>(toPs r).map (x :: ·)
 | _=>none
theorem QfQ:∀ {l:List AV} {ps:List PV} {vs:List Value},AV.toPs l=some ps->RAs w Pub φ l vs->RPs w Pub ps vs
 | [],ps,vs,h,k=>by
  simp [AV.toPs] at h;subst h;unfold RAs at k;unfold RPs;exact k
 | x::r,ps,vs,h,k=>by
  unfold RAs at k;obtain ⟨u,us,rfl,h1,h2⟩:=k
  cases x with
  | p x =>
   simp only [AV.toPs] at h
   cases hr:AV.toPs r with
   | none=>rw [hr] at h;simp at h
   | some qs =>
    rw [hr] at h;simp at h;subst h;unfold RPs;unfold RA at h1;exact ⟨u,us,rfl,h1,QfQ hr h2⟩
  | _=>simp [AV.toPs] at h
end
end
section
open Go.RowKit
def OB.has (r:Nat):OB->Bool
 | .box cells _=>YC r cells
 | .it m _ _ _=>Qxu m r
 | .ra _ _ _ ns=>ns.contains r
 | _=>false
def WF (r:Nat):List (Nat×OB)->Bool
 | []=>false
 | p::h=>p.2.has r || WF r h
def YP (r:Nat):List (Nat×AV)->Bool
 | []=>false
 | p::h=>p.2.has r || YP r h
theorem YJ {r q:Nat}:∀ {h:List (Nat×OB)},WF r h=false->(look .dead h q).has r=false
 | [],_=>rfl
 | (k,x)::h,hh=>by
  simp only [WF,QxA] at hh;rw [Qb];split
  ·exact hh.1
  ·exact YJ hh.2
theorem Wf {r q:Nat}:∀ {h:List (Nat×AV)},YP r h=false->(look .any h q).has r=false
 | [],_=>rfl
 | (k,x)::h,hh=>by
  simp only [YP,QxA] at hh;rw [Qb];split
  ·exact hh.1
  ·exact Wf hh.2
def AS.free (st:AS) (kp:List Nat) (r:Nat):Bool:=!(look OB.dead st.heap r).alive && !WF r st.heap && !YP r st.slots && !kp.contains r
section
variable {E:Env} {kp:List Nat} {φ φ':Qi} {Pub Pub':Nat->Nat->Prop} {h:List (Nat×OB)} {w w':World}
theorem QjL {φ φ':Qi} {ns:List Nat} (h:∀ q,ns.contains q=true->φ' q=φ q):loc φ' ns=loc φ ns:=by
 funext j
 unfold loc
 cases hj:ns[j]? with
 | none=>rfl
 | some q=>exact h q (Qxy.2 (QxB hj))
theorem ZO (H:Adv w Pub w' Pub') {r:Nat} {ob:OB} (hb:∀ b c,φ r=some (b,c)->w'.heap[b]? = w.heap[b]? /\ ∀ i,Pub' b i->Pub b i) (hr:φ' r=φ r)
  (hn:∀ q,ob.has q=true->φ' q=φ q) (k:Hp w Pub φ r ob):Hp w' Pub' φ' r ob:=by
 cases ob with
 | dead=>exact trivial
 | box cells t =>
  obtain ⟨b,cur,h1,h2,h3,h4,h5⟩:=k;obtain ⟨hb1,hb2⟩:=hb b 1 h1;exact ⟨b,cur,by rw [hr];exact h1,by rw [hb1];exact h2,WR H cells _ (fun q hq=>hn q hq) h3,h4,fun i hi=>h5 i (hb2 i hi)⟩
 | ra cells t sz ns =>
  have hl:loc φ' ns=loc φ ns:=QjL hn;rcases k with ⟨k1,k2⟩ | ⟨b,c,cur,fr,h1,⟨h2,h2'⟩,h3,h4,h5,h6,h7,h8⟩
  ·exact .inl ⟨by rw [hr];exact k1,k2⟩
  ·obtain ⟨hb1,hb2⟩:=hb b c h1;exact .inr ⟨b,c,cur,fr,by rw [hr];exact h1,⟨by rw [hb1];exact h2,h2'⟩,h3,h4,h5,by rw [hl];exact WR H _ _ (fun _ _=>rfl) h6,h7,fun i hi=>h8 i (hb2 i hi)⟩
 | obj p =>
  obtain ⟨b,o,h1,h2,h3,h4⟩:=k;obtain ⟨hb1,hb2⟩:=hb b 1 h1;exact ⟨b,o,by rw [hr];exact h1,by rw [hb1];exact h2,h3,fun i hi=>h4 i (hb2 i hi)⟩
 | it m since seen last =>
  obtain ⟨b,bm,h1,h0,h2,h4⟩:=k;obtain ⟨hb1,hb2⟩:=hb b 1 h1;exact ⟨b,bm,by rw [hr];exact h1,by rw [hn m (by simp [OB.has])];exact h0,by rw [hb1];exact h2,fun i hi=>h4 i (hb2 i hi)⟩
 | row cells t sz pub =>
  rcases k with ⟨k1,k2⟩ | ⟨b,c,cur,fr,h1,⟨h2,h2'⟩,h3,h4,h5,h6,h7,h8⟩
  ·exact .inl ⟨by rw [hr];exact k1,k2⟩
  ·obtain ⟨hb1,hb2⟩:=hb b c h1;exact .inr ⟨b,c,cur,fr,by rw [hr];exact h1,⟨by rw [hb1];exact h2,h2'⟩,h3,h4,h5,WE H _ _ h6,h7,fun i hi=>h8 i (hb2 i hi)⟩
theorem Inv.lt (I:Inv E kp φ Pub h w) {r b c:Nat} (ha:(look .dead h r).alive=true) (hr:φ r=some (b,c)):b < w.heap.size:=by
 have:=I.own r
 cases hl:look .dead h r with
 | dead=>rw [hl] at ha;cases ha
 | box cells t =>
  rw [hl] at this;obtain ⟨b',cur,h1,h2,_⟩:=this;rw [hr] at h1;cases h1;exact (Qxo.1 h2).1
 | ra cells t sz ns =>
  rw [hl] at this;rcases this with ⟨k1,k2⟩ | ⟨b',c',cur,fr,h1,⟨h2,_⟩,_⟩
  ·rw [hr] at k1;cases k1
  ·rw [hr] at h1;cases h1;exact (Qxo.1 h2).1
 | obj p =>
  rw [hl] at this;obtain ⟨b',o,h1,h2,_⟩:=this;rw [hr] at h1;cases h1;exact (Qxo.1 h2).1
 | it m since seen last =>
  rw [hl] at this;obtain ⟨b',bm,h1,_,h2,_⟩:=this;rw [hr] at h1;cases h1;exact (Qxo.1 h2).1
 | row cells t sz pub =>
  rw [hl] at this;rcases this with ⟨k1,k2⟩ | ⟨b',c',cur,fr,h1,⟨h2,_⟩,_⟩
  ·rw [hr] at k1;cases k1
  ·rw [hr] at h1;cases h1;exact (Qxo.1 h2).1
theorem Qu {st:AS} {r:Nat} (hf:st.free kp r=true):(look OB.dead st.heap r).alive=false/\WF r st.heap=false/\YP r st.slots=false/\r ∉ kp:=by
 unfold AS.free at hf;simp only [Bool.and_eq_true,Bool.not_eq_true'] at hf;obtain ⟨⟨⟨h1,h2⟩,h3⟩,h4⟩:=hf;exact ⟨h1,h2,h3,fun hm=>by rw [Qxy.2 hm] at h4;cases h4⟩
theorem ZI (I:Inv E kp φ Pub h w) (o:Obj):Adv w Pub (w.alloc o) Pub:=fun b i hp =>
 ⟨hp,World.cell?_alloc_lt w o ⟨b,i,none⟩ (I.publ b i hp)⟩
theorem Inv.next (I:Inv E kp φ Pub h w) {h':List (Nat×OB)} (hos:w'.os=w.os) (htape:w'.tape=w.tape) (hout:w'.output=w.output) (hsz:w.heap.size<=w'.heap.size)
  (hblk:∀ b,b < E.w0.heap.size->¬ E.A b->w'.heap[b]? = w.heap[b]?) (H:Adv w Pub w' Pub')
  (hpubs:∀ b i,Pub' b i->Pub b i\/E.w0.heap.size<=b\/E.A b) (hpl:∀ b i,Pub' b i->b < w'.heap.size)
  (own:∀ r,(look OB.dead h' r).alive=true->Hp w' Pub' φ' r (look .dead h' r))
  (mine:∀ r b c,(look OB.dead h' r).alive=true->φ' r=some (b,c)->E.w0.heap.size<=b\/E.A b)
  (inj:∀ r r' b c c',(look OB.dead h' r).alive=true->(look OB.dead h' r').alive=true->φ' r=some (b,c)->φ' r'=some (b,c')->r=r')
  (kept:∀ r,r∈kp->φ' r=φ r):Inv E kp φ' Pub' h' w':=by
 refine ⟨hos.trans I.os,htape.trans I.tape,hout.trans I.output,Nat.le_trans I.size hsz,fun b hb hA=>(hblk b hb hA).trans (I.block b hb hA),fun r=>?_,mine,inj,
  fun b i hp=>(H b i (I.pub0 b i hp)).1,fun b i hp=>?_,hpl,fun b i hp=>((H b i (I.pub0 b i hp)).2).trans (I.same b i hp),fun r hr=>(kept r hr).trans (I.kept r hr)⟩
 ·cases hl:look OB.dead h' r with
  | dead=>exact trivial
  | box cells t=>have:=own r (by rw [hl];rfl);rw [hl] at this;exact this
  | row cells t sz pub=>have:=own r (by rw [hl];rfl);rw [hl] at this;exact this
  | obj p=>have:=own r (by rw [hl];rfl);rw [hl] at this;exact this
  | ra cells t sz ns=>have:=own r (by rw [hl];rfl);rw [hl] at this;exact this
  | it m since seen last=>have:=own r (by rw [hl];rfl);rw [hl] at this;exact this
 ·rcases hpubs b i hp with h1 | h1
  ·exact I.pubs b i h1
  ·exact .inr h1
theorem Inv.alloc (I:Inv E kp φ Pub h w) {r:Nat} (hl:(look OB.dead h r).alive=false) (hh:WF r h=false) (hk:r ∉ kp) (o:Obj) (c:Nat) {ob:OB}
  (hob:Hp (w.alloc o) Pub (fun q=>if q=r then some (w.heap.size,c) else φ q) r ob) :
  Inv E kp (fun q=>if q=r then some (w.heap.size,c) else φ q) Pub ((r,ob)::h) (w.alloc o):=by
 have H:=ZI I o;have hsz:(w.alloc o).heap.size=w.heap.size+1:=by simp
 have hs:=I.size;refine I.next rfl rfl rfl (by omega) (fun b hb hA=>Below.heap_alloc _ _ _ (by omega)) H (fun b i hp=>.inl hp) (fun b i hp=>by have:=I.publ b i hp;omega) (fun q ha=>?_) (fun q b c' ha hq=>?_) (fun q q' b c1 c2 ha ha' hq hq'=>?_) (fun q hq=>?_)
 ·rw [Qb] at ha ⊢;split
  ·next e=>subst e;exact hob
  ·next e =>
   rw [if_neg e] at ha;refine ZO H (fun b c' hb=>⟨Below.heap_alloc _ _ _ (I.lt ha hb),fun i hi=>hi⟩) (if_neg (Ne.symm e)) (fun x hx=>?_) (I.own q);have:x≠r:=fun e2=>by subst e2;rw [YJ hh] at hx;cases hx
   exact if_neg this
 ·rw [Qb] at ha;by_cases e:q=r
  ·rw [if_pos e] at hq;cases hq;exact .inl hs
  ·rw [if_neg e] at hq;rw [if_neg (Ne.symm e)] at ha;exact I.mine q b c' ha hq
 ·rw [Qb] at ha ha';by_cases e:q=r <;> by_cases e':q'=r
  ·rw [e,e']
  ·rw [if_pos e] at hq;rw [if_neg e'] at hq';rw [if_neg (Ne.symm e')] at ha';cases hq;have:=I.lt ha' hq';omega
  ·rw [if_pos e'] at hq';rw [if_neg e] at hq;rw [if_neg (Ne.symm e)] at ha;cases hq';have:=I.lt ha hq;omega
  ·rw [if_neg e] at hq;rw [if_neg e'] at hq';rw [if_neg (Ne.symm e)] at ha;rw [if_neg (Ne.symm e')] at ha';exact I.inj q q' b c1 c2 ha ha' hq hq'
 ·exact if_neg (fun e=>by subst e;exact hk hq)
theorem Qad (I:Inv E kp φ Pub h w) {r:Nat} {x:AV} {u:Value} {o:Obj} (hx:x.has r=false) (c:Nat) (k:RA w Pub φ x u):RA (w.alloc o) Pub (fun q=>if q=r then some (w.heap.size,c) else φ q) x u :=
 QF (ZI I o) x u (fun q hq=>if_neg (fun e=>by subst e;rw [hx] at hq;cases hq)) k
theorem Qng (I:Inv E kp φ Pub h w) {r:Nat} {l:List AV} {us:List Value} {o:Obj} (hx:YC r l=false) (c:Nat) (k:RAs w Pub φ l us):RAs (w.alloc o) Pub (fun q=>if q=r then some (w.heap.size,c) else φ q) l us :=
 WR (ZI I o) l us (fun q hq=>if_neg (fun e=>by subst e;rw [hx] at hq;cases hq)) k
theorem QR (b:Nat):∀ (xs:List Value) (o:Nat) (w:World) (k:Nat),k≠b->(w.setCells b o xs).heap[k]? = w.heap[k]?
 | [],o,w,k,_=>rfl
 | x::xs,o,w,k,hk=>by
  rw [World.setCells,QR b xs (o+1) _ k hk];exact heap_setCell_other w ⟨b,o,none⟩ k x hk
theorem Qcf {w:World} {b i:Nat} {cs:Array Value} {t:TypeId} {fr:Nat×Nat} (hb:w.heap[b]? = some (.cells cs t fr)) (v:Value) :
  (w.setCell ⟨b,i,none⟩ v).heap[b]? = some (.cells (cs.setIfInBounds i v) t fr):=by
 simp [World.setCell,Array.getElem?_modify,hb]
theorem QC (b:Nat):∀ (xs:List Value) (o:Nat) (w:World) (cur:Array Value) (t:TypeId) (fr:Nat×Nat),w.heap[b]? = some (.cells cur t fr) ->
  ∃ cur':Array Value,(w.setCells b o xs).heap[b]? = some (.cells cur' t fr)/\cur'.size=cur.size/\cur'.toList=(xs.zipIdx o).foldl (fun l p=>l.set p.2 p.1) cur.toList
 | [],o,w,cur,t,fr,hw=>⟨cur,hw,rfl,rfl⟩
 | x::xs,o,w,cur,t,fr,hw=>by
  obtain ⟨cur',h1,h2,h3⟩:=QC b xs (o+1) (w.setCell ⟨b,o,none⟩ x) (cur.setIfInBounds o x) t fr (Qcf hw x);exact ⟨cur',h1,by simpa using h2,by rw [h3];simp⟩
theorem Wt (b:Nat):∀ (xs:List Value) (o:Nat) (w:World),(w.setCells b o xs).heap.size=w.heap.size
 | [],o,w=>rfl
 | x::xs,o,w=>by rw [World.setCells,Wt b xs];simp [World.setCell]
theorem Ww (b:Nat):∀ (xs:List Value) (o:Nat) (w:World),(w.setCells b o xs).os=w.os/\(w.setCells b o xs).tape=w.tape/\(w.setCells b o xs).output=w.output
 | [],o,w=>⟨rfl,rfl,rfl⟩
 | x::xs,o,w=>by rw [World.setCells];exact Ww b xs (o+1) _
def Qs {α:Type}:List α->Nat->List α->List α
 | l,_,[]=>l
 | l,o,x::xs=>Qs (l.set o x) (o+1) xs
theorem ZF {α:Type}:∀ (xs:List α) (o:Nat) (l:List α),(xs.zipIdx o).foldl (fun l p=>l.set p.2 p.1) l=Qs l o xs
 | [],o,l=>rfl
 | x::xs,o,l=>by simp only [List.zipIdx_cons,List.foldl_cons,Qs];exact ZF xs (o+1) _
theorem WG {α:Type}:∀ (xs:List α) (o:Nat) (l:List α),(Qs l o xs).length=l.length
 | [],o,l=>rfl
 | x::xs,o,l=>by simp [Qs,WG xs]
theorem Qae {α:Type} {u:α}:∀ (xs:List α) (o:Nat) (l:List α),u∈Qs l o xs->u∈l\/u∈xs
 | [],o,l,h=>.inl h
 | x::xs,o,l,h=>by
  rcases Qae xs (o+1) (l.set o x) h with h | h
  ·rcases List.mem_or_eq_of_mem_set h with h | h
   ·exact .inl h
   ·exact .inr (by rw [h];simp)
  ·exact .inr (List.mem_cons_of_mem _ h)
theorem XA {α:Type}:∀ (xs:List α) (o k:Nat) (l:List α),o+xs.length<=k->(Qs l o xs).take k=Qs (l.take k) o xs
 | [],o,k,l,h=>rfl
 | x::xs,o,k,l,h=>by
  simp only [Qxv] at h;simp only [Qs];rw [XA xs (o+1) k _ (by omega),List.take_set]
theorem Qaf:∀ {xs:List AV} {us:List Value} (o:Nat) {l:List AV} {vs:List Value},RAs w Pub φ l vs->RAs w Pub φ xs us->RAs w Pub φ (Qs l o xs) (Qs vs o us)
 | [],us,o,l,vs,h1,h2=>by unfold RAs at h2;subst h2;exact h1
 | x::xs,us,o,l,vs,h1,h2=>by
  unfold RAs at h2;obtain ⟨u,us',rfl,h3,h4⟩:=h2;exact Qaf (o+1) (QlD o h1 h3) h4
theorem Qhe:∀ {xs:List PV} {us:List Value} (o:Nat) {l:List PV} {vs:List Value},RPs w Pub l vs->RPs w Pub xs us->RPs w Pub (Qs l o xs) (Qs vs o us)
 | [],us,o,l,vs,h1,h2=>by unfold RPs at h2;subst h2;exact h1
 | x::xs,us,o,l,vs,h1,h2=>by
  unfold RPs at h2;obtain ⟨u,us',rfl,h3,h4⟩:=h2;exact Qhe (o+1) (QlC o h1 h3) h4
theorem ZP {b o:Nat} {us:List Value} (hp:∀ i,i < us.length->¬ Pub b (o+i)):Adv w Pub (w.setCells b o us) Pub:=fun k i hk =>
 ⟨hk,World.cell?_setCells_out b us o w ⟨k,i,none⟩ (fun h1 _=>by
  simp only at h1 ⊢;subst h1;rcases Nat.lt_or_ge i o with h2 | h2
  ·exact .inl h2
  ·rcases Nat.lt_or_ge i (o+us.length) with h3 | h3
   ·exact absurd hk (by have:=hp (i - o) (by omega);rwa [show o+(i - o)=i from by omega] at this)
   ·exact .inr h3)⟩
theorem Inv.store (I:Inv E kp φ Pub h w) {r b c o:Nat} {us:List Value} (ha:(look OB.dead h r).alive=true) (hr:φ r=some (b,c)) (hp:∀ i,i < us.length->¬ Pub b (o+i)) {ob:OB}
  (hal:ob.alive=true) (hob:Hp (w.setCells b o us) Pub φ r ob):Inv E kp φ Pub ((r,ob)::h) (w.setCells b o us):=by
 have H:=ZP (w:=w) hp;obtain ⟨s1,s2,s3⟩:=Ww b us o w;have hm:=I.mine r b c ha hr
 refine I.next s1 s2 s3 (by rw [Wt];exact Qxt _) (fun k hk hA=>QR b us o w k (fun e=>by
   subst e;rcases hm with hm | hm
   ·omega
   ·exact hA hm)) H (fun _ _ hp=>.inl hp) (fun k i hk=>by rw [Wt];exact I.publ k i hk) (fun q hq=>?_) (fun q k c' hq hk=>?_) (fun q q' k c1 c2 hq hq' hk hk'=>?_) (fun _ _=>rfl)
 ·rw [Qb] at hq ⊢;split
  ·next e=>subst e;exact hob
  ·next e =>
   rw [if_neg e] at hq;refine ZO H (fun k c' hk=>⟨QR b us o w k (fun e2=>?_),fun i hi=>hi⟩) rfl (fun _ _=>rfl) (I.own q);subst e2;exact e (I.inj r q _ _ _ ha hq hr hk)
 ·rw [Qb] at hq;by_cases e:r=q
  ·subst e;exact I.mine r k c' ha hk
  ·rw [if_neg e] at hq;exact I.mine q k c' hq hk
 ·have hx:∀ z,(look OB.dead ((r,ob)::h) z).alive=true->(look OB.dead h z).alive=true:=fun z hz=>by
   rw [Qb] at hz;by_cases e:r=z
   ·subst e;exact ha
   ·rw [if_neg e] at hz;exact hz
  exact I.inj q q' k c1 c2 (hx q hq) (hx q' hq') hk hk'
theorem Inv.storeBox (I:Inv E kp φ Pub h w) {r b o:Nat} {t:TypeId} {cells xs:List AV} {us:List Value} (hl:look OB.dead h r=.box cells t) (hr:φ r=some (b,1)) (hx:RAs w Pub φ xs us) (h1:∀ u∈us,u.oneCell'=true) :
  Inv E kp φ Pub ((r,.box (Qs cells o xs) t)::h) (w.setCells b o us)/\Adv w Pub (w.setCells b o us) Pub:=by
 have k:=I.own r;rw [hl] at k;obtain ⟨b',cur,k1,k2,k3,k4,k5⟩:=k;rw [hr] at k1;cases k1;have H:Adv w Pub (w.setCells b o us) Pub:=ZP (fun i _=>k5 _);obtain ⟨cur',c1,c2,c3⟩:=QC b us o w cur t _ k2;rw [ZF] at c3;refine ⟨I.store (by rw [hl];rfl) hr (fun i _=>k5 _) rfl ⟨b,cur',hr,c1,?_,?_,k5⟩,H⟩
 ·rw [c3];exact WR H _ _ (fun _ _=>rfl) (Qaf o k3 hx)
 ·intro u hu;rw [c3] at hu;rcases Qae us o cur.toList hu with hu | hu
  ·exact k4 u hu
  ·exact h1 u hu
theorem Inv.storeRow (I:Inv E kp φ Pub h w) {r b c o sz pub:Nat} {t:TypeId} {cells xs:List PV} {us:List Value} (hl:look OB.dead h r=.row cells t sz pub) (hr:φ r=some (b,c)) (hx:RPs w Pub xs us) (h1:∀ u∈us,u.oneCell'=true)
  (hpub:pub<=o) (hin:o+xs.length<=cells.length) :
  Inv E kp φ Pub ((r,.row (Qs cells o xs) t sz pub)::h) (w.setCells b o us)/\Adv w Pub (w.setCells b o us) Pub:=by
 have k:=I.own r;rw [hl] at k;rcases k with ⟨k0,_⟩ | ⟨b',c',cur,fr,k1,⟨k2,k2'⟩,k3,k4,k5,k6,k7,k8⟩
 ·rw [hr] at k0;cases k0
 rw [hr] at k1;cases k1;have hlen:=Wi hx;have hnp:∀ i,i < us.length->¬ Pub b (o+i):=fun i _ hp=>by have:=(k8 _ hp).1;omega
 have H:Adv w Pub (w.setCells b o us) Pub:=ZP hnp;obtain ⟨cur',c1,c2,c3⟩:=QC b us o w cur t _ k2;rw [ZF] at c3;refine ⟨I.store (by rw [hl];rfl) hr hnp rfl (.inr ⟨b,c,cur',fr,hr,⟨c1,by rw [c2];exact k2'⟩,k3,by rw [c2];exact k4,by rw [WG,c2];exact k5,?_,?_,fun i hi=>by rw [WG];exact k8 i hi⟩),H⟩
 ·rw [c3,WG,XA _ _ _ _ (by omega)];exact WE H _ _ (Qhe o k6 hx)
 ·intro u hu;rw [c3,WG,XA _ _ _ _ (by omega)] at hu;rcases Qae us o _ hu with hu | hu
  ·exact k7 u hu
  ·exact h1 u hu
end
end
section
open Go.RowKit
section
variable {E:Env} {kp:List Nat} {φ φ':Qi} {Pub Pub':Nat->Nat->Prop} {h:List (Nat×OB)} {w w':World}
theorem Inv.inplace (I:Inv E kp φ Pub h w) {r r' b c sz pub:Nat} {t:TypeId} {cells cells':List PV} (hl:look OB.dead h r=.row cells t sz pub) (hr:φ r=some (b,c))
  (hf:(look OB.dead h r').alive=false) (hh:WF r' h=false) (hk:r' ∉ kp) (hos:w'.os=w.os) (htape:w'.tape=w.tape) (hout:w'.output=w.output) (hsz:w'.heap.size=w.heap.size)
  (hother:∀ k,k≠b->w'.heap[k]? = w.heap[k]?) (H:Adv w Pub w' Pub) {cur':Array Value} {fr:Nat×Nat} (hw:w'.heap[b]? = some (.cells cur' t fr)) (hfr:Qhb t cur'.size fr) (h2:cur'.size=c * sz) (hle:cells'.length<=cur'.size)
  (hR:RPs w' Pub cells' (cur'.toList.take cells'.length)) (h1:∀ u∈cur'.toList.take cells'.length,u.oneCell'=true) (hlen:cells.length<=cells'.length) :
  Inv E kp (fun q=>if q=r' then some (b,c) else φ q) Pub ((r',.row cells' t sz pub)::(r,.dead)::h) w':=by
 have ha:(look OB.dead h r).alive=true:=by rw [hl];rfl
 have hne:r≠r':=fun e=>by subst e;rw [ha] at hf;cases hf
 have hm:=I.mine r b c ha hr;have k:=I.own r;rw [hl] at k
 have hpub:c<=maxLen /\ ∀ i,Pub b i->i < pub/\i < cells.length:=by
  rcases k with ⟨k0,_⟩ | ⟨b',c',cur,fr0,k1,⟨k2,k2'⟩,k3,k4,k5,k6,k7,k8⟩
  ·rw [hr] at k0;cases k0
  ·rw [hr] at k1;cases k1;exact ⟨k3,k8⟩
 have hal:∀ q,(look OB.dead ((r',OB.row cells' t sz pub)::(r,.dead)::h) q).alive=true->q=r'\/(q≠r'/\q≠r/\(look OB.dead h q).alive=true):=fun q hq=>by
  rw [Qb] at hq;by_cases e:r'=q
  ·exact .inl e.symm
  ·rw [if_neg e,Qb] at hq;by_cases e2:r=q
   ·rw [if_pos e2] at hq;cases hq
   ·rw [if_neg e2] at hq;exact .inr ⟨Ne.symm e,Ne.symm e2,hq⟩
 refine I.next hos htape hout (by omega) (fun k hk hA=>hother k (fun e=>by
   subst e;rcases hm with hm | hm
   ·omega
   ·exact hA hm)) H (fun _ _ hp=>.inl hp) (fun k i hp=>by rw [hsz];exact I.publ k i hp) (fun q hq=>?_) (fun q k c' hq hk=>?_) (fun q q' k c1 c2 hq hq' hk hk'=>?_) (fun q hq=>?_)
 ·rcases hal q hq with e | ⟨e1,e2,e3⟩
  ·subst e;rw [Qb,if_pos rfl];exact .inr ⟨b,c,cur',fr,if_pos rfl,⟨hw,hfr⟩,hpub.1,h2,hle,hR,h1,fun i hi=>⟨(hpub.2 i hi).1,Nat.lt_of_lt_of_le (hpub.2 i hi).2 hlen⟩⟩
  ·rw [Qb,if_neg (Ne.symm e1),Qb,if_neg (Ne.symm e2)];refine ZO H (fun k c' hk=>⟨hother k (fun e=>?_),fun i hi=>hi⟩) (if_neg e1) (fun x hx=>?_) (I.own q)
   ·subst e;exact e2 (I.inj q r _ _ _ e3 ha hk hr)
   ·have:x≠r':=fun e=>by subst e;rw [YJ hh] at hx;cases hx
    exact if_neg this
 ·rcases hal q hq with e | ⟨e1,e2,e3⟩
  ·rw [if_pos e] at hk;cases hk;exact hm
  ·rw [if_neg e1] at hk;exact I.mine q k c' e3 hk
 ·rcases hal q hq with e | ⟨e1,e2,e3⟩ <;> rcases hal q' hq' with e' | ⟨e1',e2',e3'⟩
  ·rw [e,e']
  ·rw [if_pos e] at hk;rw [if_neg e1'] at hk';cases hk;exact absurd (I.inj q' r _ _ _ e3' ha hk' hr) e2'
  ·rw [if_pos e'] at hk';rw [if_neg e1] at hk;cases hk';exact absurd (I.inj q r _ _ _ e3 ha hk hr) e2
  ·rw [if_neg e1] at hk;rw [if_neg e1'] at hk';exact I.inj q q' k c1 c2 e3 e3' hk hk'
 ·exact if_neg (fun e=>by subst e;exact hk hq)
theorem Inv.drop (I:Inv E kp φ Pub h w) (r:Nat):Inv E kp φ Pub ((r,.dead)::h) w:=by
 have hal:∀ q,(look OB.dead ((r,OB.dead)::h) q).alive=true->q≠r/\(look OB.dead h q).alive=true:=fun q hq=>by
  rw [Qb] at hq;by_cases e:r=q
  ·rw [if_pos e] at hq;cases hq
  ·rw [if_neg e] at hq;exact ⟨Ne.symm e,hq⟩
 exact I.next rfl rfl rfl (Qxt _) (fun _ _ _=>rfl) (Adv.refl _ _) (fun _ _ hp=>.inl hp) I.publ (fun q hq=>by
   rw [Qb,if_neg (Ne.symm (hal q hq).1)];exact I.own q) (fun q b c hq=>I.mine q b c (hal q hq).2) (fun q q' b c c' hq hq'=>I.inj q q' b c c' (hal q hq).2 (hal q' hq').2) (fun _ _=>rfl)
theorem Inv.drew (I:Inv E kp φ Pub h w):Inv E kp φ Pub h w.drew :=
 I.next rfl rfl rfl (Qxt _) (fun _ _ _=>rfl) (fun _ _ hp=>⟨hp,by simp⟩) (fun _ _ hp=>.inl hp) I.publ (fun q _=>ZO (w:=w) (w':=w.drew) (Pub:=Pub) (fun _ _ hp=>⟨hp,by simp⟩) (fun _ _ _=>⟨rfl,fun _ h=>h⟩) rfl (fun _ _=>rfl) (I.own q)) I.mine I.inj (fun _ _=>rfl)
theorem XB:Adv w Pub w.drew Pub:=fun _ _ hp=>⟨hp,by simp⟩
theorem Inv.nilRow (I:Inv E kp φ Pub h w) {r:Nat} (hf:(look OB.dead h r).alive=false) (hh:WF r h=false) (hk:r ∉ kp) (t:TypeId) (sz pub:Nat) :
  Inv E kp (fun q=>if q=r then none else φ q) Pub ((r,.row [] t sz pub)::h) w:=by
 have hal:∀ q,(look OB.dead ((r,OB.row [] t sz pub)::h) q).alive=true->q=r\/(q≠r/\(look OB.dead h q).alive=true):=fun q hq=>by
  rw [Qb] at hq;by_cases e:r=q
  ·exact .inl e.symm
  ·rw [if_neg e] at hq;exact .inr ⟨Ne.symm e,hq⟩
 refine I.next rfl rfl rfl (Qxt _) (fun _ _ _=>rfl) (Adv.refl _ _) (fun _ _ hp=>.inl hp) I.publ (fun q hq=>?_) (fun q b c hq hb=>?_) (fun q q' b c c' hq hq' hb hb'=>?_) (fun q hq=>if_neg (fun e=>by subst e;exact hk hq))
 ·rcases hal q hq with e | ⟨e,hq⟩
  ·subst e;rw [Qb,if_pos rfl];exact .inl ⟨if_pos rfl,rfl⟩
  ·rw [Qb,if_neg (Ne.symm e)];refine ZO (Adv.refl _ _) (fun _ _ _=>⟨rfl,fun _ h=>h⟩) (if_neg e) (fun x hx=>?_) (I.own q);have:x≠r:=fun e=>by subst e;rw [YJ hh] at hx;cases hx
   exact if_neg this
 ·rcases hal q hq with e | ⟨e,hq⟩
  ·rw [if_pos e] at hb;cases hb
  ·rw [if_neg e] at hb;exact I.mine q b c hq hb
 ·rcases hal q hq with e | ⟨e,hq⟩
  ·rw [if_pos e] at hb;cases hb
  ·rcases hal q' hq' with e' | ⟨e',hq'⟩
   ·rw [if_pos e'] at hb';cases hb'
   ·rw [if_neg e] at hb;rw [if_neg e'] at hb';exact I.inj q q' b c c' hq hq' hb hb'
theorem Z6 {r:Nat} {x:AV} {u:Value} {g:Option (Nat×Nat)} (H:Adv w Pub w' Pub') (hx:x.has r=false) (k:RA w Pub φ x u):RA w' Pub' (fun q=>if q=r then g else φ q) x u :=
 QF H x u (fun q hq=>if_neg (fun e=>by subst e;rw [hx] at hq;cases hq)) k
theorem Yo {α:Type}:∀ (vs:List α) (k:Nat) (l:List α),k+vs.length<=l.length->(Qs l k vs).take (k+vs.length)=l.take k++vs
 | [],k,l,h=>by simp [Qs]
 | x::xs,k,l,h=>by
  simp only [Qxv] at h;simp only [Qs,Qxv];rw [show k+(xs.length+1)=(k+1)+xs.length from by omega,Yo xs (k+1) (l.set k x) (by rw [List.length_set];omega)];rw [List.take_succ_eq_append_getElem (by rw [List.length_set];omega),List.getElem_set_self,List.take_set,List.set_eq_of_length_le (by rw [List.length_take];omega)];simp
section
variable {P:Program}
theorem Y7 (base:Nat) (t ty e:TypeId) (i:TypeInfo) (ht:P.underlying t=some (.slice e)) (hi:P.info? e=some i)
  (a:Option Addr) (n cap c:Nat) (hn:n<=cap) (ha:a=none->n=0):(Builtin.append_ #[t,t] ty #[.slice a n cap,.slice none 0 c]).run P w=.ok (.slice a n cap) w:=by
 cases a with
 | none =>
  simp [Builtin.append_,run_underlying ht,sizeOf,typeInfo,hi,Builtin.lenOf,Builtin.firstCells,hn]
 | some ad=>simp [Builtin.append_,run_underlying ht,sizeOf,typeInfo,hi,Builtin.lenOf,Builtin.firstCells,hn,storeCells]
def Src (w:World) (sz:Nat) (a:Option Addr) (m:Nat) (vs:List Value):Prop :=
 vs.length=m * sz/\(∀ u∈vs,u.oneCell'=true)/\((a=none/\m=0)\/∃ ad,a=some ad /\ ∀ j u,vs[j]? = some u->w.cell? (ad.add j)=some u)
theorem Inv.append (I:Inv E kp φ Pub h w) {r r' n sz pub:Nat} {e:TypeId} {cells news:List PV} {u:Value} (hl:look OB.dead h r=.row cells e sz pub) (hu:RA w Pub φ (.osl r n) u) (hn:n * sz=cells.length)
  (hf:(look OB.dead h r').alive=false) (hh:WF r' h=false) (hk:r' ∉ kp)
  (t ty:TypeId) (i:TypeInfo) (z:Value) (bytes:Nat) (ht:P.underlying t=some (.slice e)) (hi:P.info? e=some i) (hz:i.zero=some z) (hsize:i.size=sz) (hby:i.bytes=bytes) (hzs:z.cells.size=sz) (hsz:0 < sz)
  (a:Option Addr) (m c:Nat) (vs:List Value) (hv:RPs w Pub news vs) (hs:Src w sz a m vs) (h63:n+m<=maxLen) (hbytes:(n+m) * bytes<=140737488355328) :
  ∃ v' w' g,(Builtin.append_ #[t,t] ty #[u,.slice a m c]).run P w=.ok v' w'/\Inv E kp (fun q=>if q=r' then g else φ q) Pub ((r',.row (cells++news) e sz pub)::(r,.dead)::h) w' /\
   RA w' Pub (fun q=>if q=r' then g else φ q) (.osl r' (n+m)) v'/\Adv w Pub w' Pub:=by
 subst hsize;subst hby;have ha:(look OB.dead h r).alive=true:=by rw [hl];rfl
 have hne:r≠r':=fun e=>by subst e;rw [ha] at hf;cases hf
 have hfd:(look OB.dead ((r,OB.dead)::h) r').alive=false:=by rw [Qb,if_neg hne];exact hf
 have hhd:WF r' ((r,OB.dead)::h)=false:=by simp only [WF,OB.has,hh];rfl
 have hsmall:n+m<=9223372036854775807:=by simp only [maxLen] at h63;omega
 obtain ⟨hs1,hs2,hs3⟩:=hs;have hnl:news.length=m * i.size:=by have:=Wi hv;omega
 have grow:∀ (xs:List Value) (old:Nat),RPs w Pub cells xs->(∀ u∈xs,u.oneCell'=true)->old < n+m ->
   ∃ g,Inv E kp (fun q=>if q=r' then g else φ q) Pub ((r',.row (cells++news) e i.size pub)::(r,.dead)::h) (w.drew.alloc (.cells (xs.toArray++vs.toArray++Builtin.zeroCells z.cells (grownCap w (n+m) old e - (n+m))) e)) /\
   RA (w.drew.alloc (.cells (xs.toArray++vs.toArray++Builtin.zeroCells z.cells (grownCap w (n+m) old e - (n+m))) e)) Pub (fun q=>if q=r' then g else φ q) (.osl r' (n+m)) (.slice (some ⟨w.heap.size,0,none⟩) (n+m) (grownCap w (n+m) old e)) /\
   Adv w Pub (w.drew.alloc (.cells (xs.toArray++vs.toArray++Builtin.zeroCells z.cells (grownCap w (n+m) old e - (n+m))) e)) Pub:=by
  intro xs old hx h1 ho;have hge:=grownCap_ge w (n+m) old e;have hcm:grownCap w (n+m) old e<=maxLen:=grownCap_le_maxLen w (n+m) old e h63;have hxl:=Wi hx;have ID:=(I.drop r).drew
  have hcs:(xs.toArray++vs.toArray++Builtin.zeroCells z.cells (grownCap w (n+m) old e - (n+m))).size=grownCap w (n+m) old e * i.size:=by
   simp only [Array.size_append,List.size_toArray,size_zeroCells,hzs,hxl,<- hn,hs1,<- QxH];congr 1;omega
  have htk:(xs.toArray++vs.toArray++Builtin.zeroCells z.cells (grownCap w (n+m) old e - (n+m))).toList.take (cells++news).length=xs++vs:=by
   simp only [Array.toList_append];rw [show (cells++news).length=(xs++vs).length from by simp only [Qxs];omega];exact List.take_left
  have H:=(XB (w:=w) (Pub:=Pub)).trans (ZI ID (.cells (xs.toArray++vs.toArray++Builtin.zeroCells z.cells (grownCap w (n+m) old e - (n+m))) e));refine ⟨some (w.heap.size,grownCap w (n+m) old e),ID.alloc hfd hhd hk _ (grownCap w (n+m) old e) (.inr ⟨w.heap.size,_,_,(0,0),if_pos rfl,⟨heap_alloc_new w.drew _,.inl rfl⟩,hcm,hcs,?_,?_,?_,fun j hj=>?_⟩),?_,H⟩
  ·rw [hcs,Qxs,<- hn,hnl,<- QxH];exact QxC _ hge
  ·rw [htk];exact WE H _ _ (Z5 hx hv)
  ·rw [htk];intro y hy;rcases List.mem_append.1 hy with hy | hy
   ·exact h1 y hy
   ·exact hs2 y hy
  ·have:=I.publ _ _ hj;exact absurd this (Nat.lt_irrefl _)
  ·unfold RA;exact .inl ⟨w.heap.size,_,if_pos rfl,rfl,hge⟩
 have k:=I.own r;rw [hl] at k;unfold RA at hu;rcases k with ⟨k0,rfl⟩ | ⟨b,cc,cur,fr,k1,⟨k2,k2'⟩,k3,k4,k5,k6,k7,k8⟩
 ·
  have hn0:n=0:=by
   rcases Nat.eq_zero_or_pos n with h0 | h0
   ·exact h0
   ·have:=Nat.mul_pos h0 hsz;simp at hn;omega
  subst hn0
  have hu':u=.slice none 0 0:=by
   rcases hu with ⟨b,c,e1,_⟩ | ⟨_,_,e⟩
   ·rw [k0] at e1;cases e1
   ·exact e
  subst hu';rcases Nat.eq_zero_or_pos m with hm | hm
  ·subst hm;have hv0:vs=[]:=Qxp (by omega);have hn0:news=[]:=Qxp (by omega);subst hv0 hn0;refine ⟨.slice none 0 0,w,none,?_,(I.drop r).nilRow hfd hhd hk e i.size pub,by unfold RA;exact .inr ⟨if_pos rfl,rfl,rfl⟩,Adv.refl _ _⟩;rcases hs3 with ⟨rfl,_⟩ | ⟨ad,rfl,_⟩
   ·exact Y7 0 t ty e i ht hi none 0 0 c (Qxt _) (fun _=>rfl)
   ·simp [Builtin.append_,run_underlying ht,sizeOf,typeInfo,hi,Builtin.lenOf,Builtin.firstCells,loadCells,loadCellsFrom]
  ·rcases hs3 with ⟨_,h0⟩ | ⟨ad,rfl,hc⟩
   ·omega
   obtain ⟨g,G1,G2,G3⟩:=grow [] 0 (by unfold RPs;rfl) (by simp) (by omega);have hr:=run_append_nil (P:=P) w t ty e i z ht hi hz ad m c vs hs1 hc hm (by omega) (by have hb:=hbytes;simp only [Qxw] at hb;omega);simp only [Qxw,List.nil_append,Array.empty_append] at G1 G2 G3 ⊢;exact ⟨_,_,g,hr,G1,G2,G3⟩
 ·have hu':u=.slice (some ⟨b,0,none⟩) n cc/\n<=cc:=by
   rcases hu with ⟨b',c',e1,e2,e3⟩ | ⟨e1,_,_⟩
   ·rw [k1] at e1;cases e1;exact ⟨e2,e3⟩
   ·rw [k1] at e1;cases e1
  obtain ⟨rfl,hnc⟩:=hu';have hxl:(cur.toList.take cells.length).length=n * i.size:=by rw [List.length_take,Nat.min_eq_left (by rw [Qxr];exact k5),hn]
  by_cases hroom:n+m<=cc
  ·
   have hfit:n * i.size+vs.length<=cur.size:=by rw [hs1,k4,<- QxH];exact QxC _ hroom
   have place:∀ (w1:World) (cur1:Array Value),w1.os=w.os->w1.tape=w.tape->w1.output=w.output->w1.heap.size=w.heap.size->(∀ k,k≠b->w1.heap[k]? = w.heap[k]?) ->
     w1.heap[b]? = some (.cells cur1 e fr)->cur1.size=cur.size->cur1.toList.take (cells++news).length=cur.toList.take cells.length++vs ->
     ∃ g,Inv E kp (fun q=>if q=r' then g else φ q) Pub ((r',.row (cells++news) e i.size pub)::(r,.dead)::h) w1/\RA w1 Pub (fun q=>if q=r' then g else φ q) (.osl r' (n+m)) (.slice (some ⟨b,0,none⟩) (n+m) cc)/\Adv w Pub w1 Pub:=by
    intro w1 cur1 s1 s2 s3 s4 hoth hb1 hsz1 htk
    have H:Adv w Pub w1 Pub:=fun q j hp=>⟨hp,by
     by_cases hq:q=b
     ·subst hq;have hj:=(k8 j hp).2;rw [cell_of_row w1 q j cur1 e fr hb1,cell_of_row w q j cur e fr k2];have e1:cur1.toList[j]? = ((cur1.toList.take (cells++news).length)[j]?):=by rw [Qxq (by rw [Qxs];omega)]
      rw [<- Qxz,<- Qxz,e1,htk,List.getElem?_append_left (by omega),Qxq hj]
     ·exact World.cell?_of_block (a:=⟨q,j,none⟩) (hoth q hq)⟩
    refine ⟨some (b,cc),I.inplace hl k1 hf hh hk s1 s2 s3 s4 hoth H hb1 (by rw [hsz1];exact k2') (by rw [hsz1];exact k4) ?_ ?_ ?_ (by simp),by unfold RA;exact .inl ⟨b,cc,if_pos rfl,rfl,hroom⟩,H⟩
    ·rw [hsz1,Qxs];omega
    ·rw [htk];exact WE H _ _ (Z5 k6 hv)
    ·rw [htk];intro y hy;rcases List.mem_append.1 hy with hy | hy
     ·exact k7 y hy
     ·exact hs2 y hy
   rcases hs3 with ⟨rfl,rfl⟩ | ⟨ad,rfl,hc⟩
   ·have hv0:vs=[]:=Qxp (by omega);have hn0:news=[]:=Qxp (by omega);subst hv0 hn0;obtain ⟨g,G1,G2,G3⟩:=place w cur rfl rfl rfl rfl (fun _ _=>rfl) k2 rfl (by simp);exact ⟨_,w,g,Y7 0 t ty e i ht hi _ n cc c hnc (fun h=>by cases h),G1,G2,G3⟩
   ·have hst:=run_storeCells_cells (P:=P) b (n * i.size) vs 0 w (fun j hj=>by
      rw [cell_of_row w b _ cur e fr k2,Array.getElem?_eq_getElem (by omega)];rfl) (fun j hj=>by
      unfold World.frozen?;simp only [k2];rcases k2' with h0 | h0
      ·subst h0;simp
      ·have:=h0.1;simp;omega) hs2
    have hfc:=run_firstCells_some (P:=P) w i.size m ad m c vs hs1 hc
    have hr:(Builtin.append_ #[t,t] ty #[.slice (some ⟨b,0,none⟩) n cc,.slice (some ad) m c]).run P w=.ok (.slice (some ⟨b,0,none⟩) (n+m) cc) (w.setCells b (n * i.size) vs):=by
     simp only [Nat.add_zero] at hst;simp [Builtin.append_,run_underlying ht,sizeOf,typeInfo,hi,Builtin.lenOf,hroom,hfc,Addr.add_mid,hst]
    obtain ⟨s1,s2,s3⟩:=Ww b vs (n * i.size) w;obtain ⟨cur',c1,c2,c3⟩:=QC b vs (n * i.size) w cur e fr k2;rw [ZF] at c3
    obtain ⟨g,G1,G2,G3⟩:=place (w.setCells b (n * i.size) vs) cur' s1 s2 s3 (Wt _ _ _ _) (fun k hk=>QR b vs _ w k hk) c1 c2 (by
      rw [c3,hn];have hle:cells.length+vs.length<=cur.toList.length:=by have:=Qxr (xs:=cur);omega
      rw [show (cells++news).length=cells.length+vs.length from by rw [Qxs];omega]
      exact Yo vs cells.length cur.toList hle)
    exact ⟨_,_,g,hr,G1,G2,G3⟩
  ·
   rcases hs3 with ⟨_,h0⟩ | ⟨ad,rfl,hc⟩
   ·omega
   have holds:∀ j u,(cur.toList.take cells.length)[j]? = some u->w.cell? ((⟨b,0,none⟩:Addr).add j)=some u:=fun j u hj=>by
    rw [Addr.add_mid,Qxw,cell_of_row w b j cur e fr k2];rw [QxG] at hj;split at hj
    ·simpa using hj
    ·cases hj
   have hr:=run_append_grow (P:=P) w t ty e i z ht hi hz ⟨b,0,none⟩ n cc _ hxl holds ad m c vs hs1 hc (by omega) (by omega) (growslice_fits (by omega) hbytes);obtain ⟨g,G1,G2,G3⟩:=grow _ cc k6 k7 (by omega);exact ⟨_,_,g,hr,G1,G2,G3⟩
end
theorem Inv.share (I:Inv E kp φ Pub h w) {r:Nat} {cells:List PV} {t:TypeId} {sz pub:Nat} {ob:OB} (hl:look OB.dead h r=ob)
  (hob:ob=.row cells t sz pub\/(∃ avs,ob=.box avs t/\AV.toPs avs=some cells/\sz=cells.length)\/∃ avs ns,ob=.ra avs t sz ns/\avs.length=cells.length /\ ∀ vs,RAs w Pub (loc φ ns) avs vs->RPs w Pub cells vs) :
  ∃ Pub',Inv E kp φ Pub' ((r,.row cells t sz cells.length)::h) w/\Adv w Pub w Pub'/\(∀ b c,φ r=some (b,c)->RPc w Pub' cells b 0/\c<=maxLen)/\(φ r=none->cells=[]):=by
 have ha:(look OB.dead h r).alive=true:=by
  rw [hl];rcases hob with rfl | ⟨avs,rfl,_⟩ | ⟨avs,ns,rfl,_⟩ <;> rfl
 have k:=I.own r;rw [hl] at k;have k':(φ r=none/\cells=[])\/∃ b c cur fr,φ r=some (b,c)/\(w.heap[b]? = some (.cells cur t fr)/\Qhb t cur.size fr)/\c<=maxLen/\cur.size=c * sz/\cells.length<=cur.size /\
   RPs w Pub cells (cur.toList.take cells.length)/\(∀ u∈cur.toList.take cells.length,u.oneCell'=true) /\ ∀ i,Pub b i->i < cells.length:=by
  rcases hob with rfl | ⟨avs,rfl,h1,h2⟩ | ⟨avs,ns,rfl,h1,h2⟩
  ·rcases k with k | ⟨b,c,cur,fr,k1,k2,k3,k4,k5,k6,k7,k8⟩
   ·exact .inl k
   ·exact .inr ⟨b,c,cur,fr,k1,k2,k3,k4,k5,k6,k7,fun i hi=>(k8 i hi).2⟩
  ·obtain ⟨b,cur,k1,k2,k3,k4,k5⟩:=k;have k6:=QfQ h1 k3;have hlen:=Wi k6;rw [Qxr] at hlen;refine .inr ⟨b,1,cur,(0,0),k1,⟨k2,.inl rfl⟩,by unfold maxLen;omega,by omega,by omega,?_,?_,fun i hi=>absurd hi (k5 i)⟩
   ·rw [Qxx (by rw [Qxr];omega)];exact k6
   ·rw [Qxx (by rw [Qxr];omega)];exact k4
  ·rcases k with ⟨k0,k⟩ | ⟨b,c,cur,fr,k1,k2,k3,k4,k5,k6,k7,k8⟩
   ·refine .inl ⟨k0,?_⟩;rw [k] at h1;exact Qxp h1.symm
   ·rw [h1] at k5 k6 k7;exact .inr ⟨b,c,cur,fr,k1,k2,k3,k4,k5,h2 _ k6,k7,fun i hi=>absurd hi (k8 i)⟩
 have hal:∀ q,(look OB.dead ((r,OB.row cells t sz cells.length)::h) q).alive=true->(look OB.dead h q).alive=true:=fun q hq=>by
  rw [Qb] at hq;by_cases e:r=q
  ·subst e;exact ha
  ·rw [if_neg e] at hq;exact hq
 rcases k' with ⟨k1,k2⟩ | ⟨b,c,cur,fr,k1,k2,k3,k4,k5,k6,k7,k8⟩
 ·refine ⟨Pub,?_,Adv.refl _ _,(fun b c hb=>by rw [k1] at hb;cases hb),fun _=>k2⟩;refine I.next rfl rfl rfl (Qxt _) (fun _ _ _=>rfl) (Adv.refl _ _) (fun _ _ hp=>.inl hp) I.publ (fun q hq=>?_) (fun q b c hq hb=>I.mine q b c (hal q hq) hb) (fun q q' b c c' hq hq' hb hb'=>I.inj q q' b c c' (hal q hq) (hal q' hq') hb hb') (fun _ _=>rfl);rw [Qb];split
  ·next e=>subst e;exact .inl ⟨k1,k2⟩
  ·exact I.own q
 ·have H:Adv w Pub w (fun x i=>Pub x i\/(x=b/\i < cells.length)):=fun x i hp=>⟨.inl hp,rfl⟩;refine ⟨fun x i=>Pub x i\/(x=b/\i < cells.length),?_,H,fun b' c' hb=>?_,(fun h0=>by rw [k1] at h0;cases h0)⟩
  ·refine I.next rfl rfl rfl (Qxt _) (fun _ _ _=>rfl) H (fun x i hp=>?_) (fun x i hp=>?_) (fun q hq=>?_) (fun q b c hq hb=>I.mine q b c (hal q hq) hb) (fun q q' b c c' hq hq' hb hb'=>I.inj q q' b c c' (hal q hq) (hal q' hq') hb hb') (fun _ _=>rfl)
   ·rcases hp with hp | ⟨rfl,_⟩
    ·exact .inl hp
    ·exact .inr (I.mine r x c ha k1)
   ·rcases hp with hp | ⟨rfl,_⟩
    ·exact I.publ x i hp
    ·exact I.lt ha k1
   ·have hq':=hal q hq;rw [Qb];split
    ·next e =>
     subst e
     exact .inr ⟨b,c,cur,fr,k1,k2,k3,k4,k5,WE H _ _ k6,k7,fun i hi=>by
      rcases hi with hi | ⟨_,hi⟩
      ·exact ⟨k8 i hi,k8 i hi⟩
      ·exact ⟨hi,hi⟩⟩
    ·next e =>
     refine ZO H (fun x c' hx=>⟨rfl,fun i hi=>?_⟩) rfl (fun _ _=>rfl) (I.own q);rcases hi with hi | ⟨rfl,_⟩
     ·exact hi
     ·exact absurd (I.inj r q x c c' ha hq' k1 hx) e
  ·rw [k1] at hb;cases hb;refine ⟨Qbb fun i x hx=>?_,k3⟩;obtain ⟨u,hu,hR⟩:=QfP k6 hx;have hi:i < cells.length:=(List.getElem?_eq_some_iff.1 hx).1;rw [Qxq hi] at hu;refine ⟨u,?_,.inr ⟨rfl,by omega⟩,k7 u (QxB (by rw [Qxq hi];exact hu)),Qaa H x u hR⟩;rw [Qxw,cell_of_row w b i cur t fr k2.1];simpa using hu
end
end
end Go.Proofs.YtcebndkiagbddaaGreatDoor
