/- A part of the proof: contracts of functions and what they stand on. Written shorter and merged by a program (pack.py). -/
import Derived.Test.YtcebndkiagbddaaGreatDoorK0
set_option linter.unusedVariables false
set_option linter.unusedSimpArgs false
set_option maxRecDepth 100000
set_option maxHeartbeats 4000000
open Nat renaming blt -> Qxo, eq_of_beq_eq_true -> Qxs
open Array renaming getD_eq_getD_getElem? -> Qxp, length_toList -> QxA
open BitVec renaming ofInt -> Qxq
open Option renaming map_some -> Qxr, some -> Qxw, bind_some -> Qxy
open List renaming getElem?_eq_some_iff -> Qxt, getElem?_take -> Qxu, map_cons -> Qxv, getElem?_drop -> Qxx, map_nil -> QxB
open Bool renaming and_eq_true -> Qxz
namespace Go.Proofs.YtcebndkiagbddaaGreatDoor
section
open Go.RowKit
def Q4 (P:Program) (T:TypeId):Option Bool:=(P.underlying T).map fun d=>d.isRow
def Zh (P:Program) (T:TypeId):Option Nat:=(P.info? T).map (·.size)
def QjM (P:Program) (T:TypeId):Option (List Value):=((P.info? T).bind (·.zero)).map fun z=>z.cells.toList
def Qbc (P:Program) (T:TypeId):Option (List (Nat×Nat)) :=
 match P.underlying T with
 | some (.struct fs)=>fs.toList.mapM fun f=>(P.info? f.type).map fun i=>(f.offset,i.size)
 | _=>none
def Qhf (P:Program) (T:TypeId):Option (Nat×Nat) :=
 match P.underlying T with
 | some (.array n e)=>(P.info? e).map fun i=>(n,i.size)
 | _=>none
def X8 (P:Program) (T:TypeId):Option (TypeId×Nat) :=
 match P.underlying T with
 | some (.slice e)=>(P.info? e).map fun i=>(e,i.size)
 | _=>none
section
variable {P:Program} {E:Env} {kp:List Nat} {n:Nat} {ops:Array Oper} {st st':AS}
def Qd (P:Program) (E:Env) (kp:List Nat) (n:Nat) (ops:Array Oper) (o:Oper) (st st':AS):Prop :=
 ∀ (a:Act) (w:World) (K:Act->World->Prop) (Q:Exit->Act->World->Prop),Sat E kp n st a w->(∀ a' w',Sat E kp n st' a' w'->K a' w') ->
  if Region.wanted o (yielded ops a.tmps)=true then o.wp P a w K Q else K (a.put o.dst undef) w
theorem Qd.val {o:Oper} (hg:o.guard=none) (h:∀ a w,Sat E kp n st a w->∃ u w',(execOp a.eval o).run P w=.ok (.value u) w'/\Sat E kp n st' (a.put o.dst u) w'):Qd P E kp n ops o st st':=by
 intro a w K Q hs hK;obtain ⟨u,w',hr,hs'⟩:=h a w hs;rw [if_pos (by simp [Region.wanted,hg])];unfold Oper.wp;rw [hr];exact hK _ _ hs'
theorem Qd.skip {o:Oper} (hg:o.guard=none) (h:∀ a w,Sat E kp n st a w->∃ w',(execOp a.eval o).run P w=.ok .skip w'/\Sat E kp n st' (a.put o.dst undef) w'):Qd P E kp n ops o st st':=by
 intro a w K Q hs hK;obtain ⟨w',hr,hs'⟩:=h a w hs;rw [if_pos (by simp [Region.wanted,hg])];unfold Oper.wp;rw [hr];exact hK _ _ hs'
section
variable {φ:Qi} {Pub:Nat->Nat->Prop} {w:World} {h:List (Nat×OB)} {sl:List (Nat×AV)} {a:Act}
theorem Sat.put (I:Inv E kp φ Pub h w) (h0:a.defers=[]) (hn:a.tmps.size=n) (hs:∀ s,RA w Pub φ (look .any sl s) (a.tmps.getD s undef)) {d:Nat} (hd:Qxo d n=true) {x:AV} {u:Value} (hx:RA w Pub φ x u) :
  Sat E kp n ⟨(d,x)::sl,h⟩ (a.put (some d) u) w:=by
 have hd:d < n:=by rw [Nat.blt_eq] at hd;exact hd
 refine ⟨φ,Pub,I,h0,by simpa [Act.put] using hn,fun s=>?_⟩;rw [Qb];simp only [Act.put,Qxp,Array.getElem?_setIfInBounds];by_cases e:d=s
 ·subst e;rw [if_pos rfl,if_pos rfl,if_pos (by omega)];exact hx
 ·rw [if_neg e,if_neg e,<- Qxp];exact hs s
theorem Za (hs:∀ s,RA w Pub φ (look .any sl s) (a.tmps.getD s undef)) (x:Operand):RA w Pub φ (AS.ev ⟨sl,h⟩ x) (a.eval x):=by
 cases x with
 | tmp t=>exact hs t
 | const c=>show RA w Pub φ (.p (.v c)) c;simp [RA,RP]
 | func f=>show RA w Pub φ (.p (.v _)) _;simp [RA,RP,Act.eval]
 | global g=>show RA w Pub φ .any _;simp [RA]
end
def Gv (x y:AV):Prop:=∀ w Pub φ u,RA w Pub φ x u->RA w Pub φ y u
theorem Gv.r {x:AV}:Gv x x:=fun _ _ _ _ h=>h
theorem Gv.c {g:Bool} {x y:AV} (hg:g=true) (h:Gv x y):Gv (.cnd g x) y:=fun w Pub φ u k=>h w Pub φ u (by unfold RA at k;exact k.1 hg)
theorem Gv.v {x:AV} {v:Value} (h:Gv x (.p (.v v))) {w Pub φ u} (k:RA w Pub φ x u):u=v:=by
 have:=h w Pub φ u k;unfold RA RP at this;exact this
theorem Gv.p_ {x:AV} {q:PV} (h:Gv x (.p q)) {w Pub φ u} (k:RA w Pub φ x u):RP w Pub q u:=by
 have:=h w Pub φ u k;unfold RA at this;exact this
theorem Gv.agg {l:List PV}:Gv (.agg (l.map .p)) (.p (.agg l)):=fun w Pub φ u k=>by
 unfold RA at k ⊢;unfold RP;obtain ⟨vs,e,h⟩:=k;refine ⟨vs,e,?_⟩;clear e
 induction l generalizing vs with
 | nil=>unfold RAs at h;unfold RPs;exact h
 | cons x l ih =>
  rw [Qxv] at h;unfold RAs at h;unfold RPs;obtain ⟨u,us,e,h1,h2⟩:=h;exact ⟨u,us,e,by unfold RA at h1;exact h1,ih us h2⟩
theorem Qw {o:Oper} {d:Nat} (x:AV) (hg:o.guard=none) (ho:o.dst=some d) (hd:Qxo d n=true)
  (h:∀ (a:Act) (w:World) (φ:Qi) (Pub:Nat->Nat->Prop),Inv E kp φ Pub st.heap w->(∀ y,RA w Pub φ (st.ev y) (a.eval y))->∃ u,(execOp a.eval o).run P w=.ok (.value u) w/\RA w Pub φ x u) :
  Qd P E kp n ops o st (st.put d x):=by
 refine Qd.val hg fun a w ⟨φ,Pub,I,h0,hn,hs⟩=>?_;obtain ⟨u,hr,hx⟩:=h a w φ Pub I (Za hs);exact ⟨u,w,hr,by rw [ho];exact Sat.put I h0 hn hs hd hx⟩
variable {d:Nat} {ty:TypeId} {ps:String} {af:Array Edge}
section
variable {x:Operand} {o:Op} (ho:o=.move x\/o=.assign x) (hd:Qxo d n=true)
include ho hd
theorem Qnh {y:AV} (hx:Gv (st.ev x) y):Qd P E kp n ops ⟨some d,o,ty,ps,af,none⟩ st (st.put d y):=by
 rcases ho with rfl | rfl
 ·exact Qw _ rfl rfl hd fun a w φ Pub I hs=>⟨_,rfl,hx _ _ _ _ (hs x)⟩
 ·exact Qw _ rfl rfl hd fun a w φ Pub I hs=>⟨_,rfl,hx _ _ _ _ (hs x)⟩
end
theorem QlE {a b:Bool} (h:a=true) (k:b=true):(a && b)=true:=by rw [h,k];rfl
theorem ZQ {q:Bool} (h:q=true):(q == true)=true:=by rw [h];rfl
theorem Yz {q:Bool} (h:q=false):(q == false)=true:=by rw [h];rfl
theorem S_and {c x y:Operand} {g q:Bool} (hc:Gv (st.ev c) (.p (.v (.bool g)))) (hy:Gv (st.ev y) (.p (.v (.bool false)))) (hx:g=true->Gv (st.ev x) (.p (.v (.bool q)))) (hd:Qxo d n=true) :
  Qd P E kp n ops ⟨some d,.pick c x y,ty,ps,af,none⟩ st (st.put d (.p (.v (.bool (g && q))))) :=
 Qw _ rfl rfl hd fun a w φ Pub I hs=>by
  have e1:=hc.v (hs c)
  cases g with
  | true =>
   have e2:=(hx rfl).v (hs x);refine ⟨.bool q,?_,by simp [RA,RP]⟩;simp [execOp,e1,e2,asBool]
  | false =>
   have e2:=hy.v (hs y);refine ⟨.bool false,?_,by simp [RA,RP]⟩;simp [execOp,e1,e2,asBool]
theorem S_or {c x y:Operand} {g q:Bool} (hc:Gv (st.ev c) (.p (.v (.bool g)))) (hy:Gv (st.ev y) (.p (.v (.bool true)))) (hx:g=false->Gv (st.ev x) (.p (.v (.bool q)))) (hd:Qxo d n=true) :
  Qd P E kp n ops ⟨some d,.pick c y x,ty,ps,af,none⟩ st (st.put d (.p (.v (.bool (g || q))))) :=
 Qw _ rfl rfl hd fun a w φ Pub I hs=>by
  have e1:=hc.v (hs c)
  cases g with
  | false =>
   have e2:=(hx rfl).v (hs x);refine ⟨.bool q,?_,by simp [RA,RP]⟩;simp [execOp,e1,e2,asBool]
  | true =>
   have e2:=hy.v (hs y);refine ⟨.bool true,?_,by simp [RA,RP]⟩;simp [execOp,e1,e2,asBool]
theorem S_not {x:Operand} {T:TypeId} {g:Bool} (hx:Gv (st.ev x) (.p (.v (.bool g)))) (hd:Qxo d n=true) :
  Qd P E kp n ops ⟨some d,.unOp .not T x,ty,ps,af,none⟩ st (st.put d (.p (.v (.bool (!g))))) :=
 Qw _ rfl rfl hd fun a w φ Pub I hs=>by
  have e1:=hx.v (hs x);exact ⟨.bool (!g),by simp [execOp,e1,Op.unary],by simp [RA,RP]⟩
theorem QsJ {o:Op} {j gs:Nat} {want g:Bool} {x:AV} (hj:(ops[j]?).bind (·.dst)=some gs) (hgs:st.ev (.tmp gs)=.p (.v (.bool g))) (hd:Qxo d n=true)
  (h:(g == want)=true->Qd P E kp n ops ⟨some d,o,ty,ps,af,none⟩ st (st.put d x)):Qd P E kp n ops ⟨some d,o,ty,ps,af,some (j,want)⟩ st (st.put d (.cnd (g == want) x)):=by
 intro a w K Q hs hK;obtain ⟨φ,Pub,I,h0,hn,hsl⟩:=hs;have e0:=Za (h:=st.heap) hsl (.tmp gs)
 have e1:a.tmps.getD gs undef=.bool g:=by
  have:RA w Pub φ (.p (.v (.bool g))) (a.eval (.tmp gs)):=by rw [<- hgs];exact e0
  unfold RA RP at this;exact this
 have hy:yielded ops a.tmps j=some g:=by
  unfold yielded;rw [hj];simp only [Qxy];rw [Qxp] at e1
  cases hq:a.tmps[gs]? with
  | none=>rw [hq] at e1;simp [undef] at e1
  | some v=>rw [hq] at e1;simp at e1;rw [e1]
 have hw:Region.wanted ⟨some d,o,ty,ps,af,some (j,want)⟩ (yielded ops a.tmps)=(g == want):=by
  simp only [Region.wanted,hy];cases g <;> cases want <;> rfl
 rw [hw];by_cases hgw:(g == want)=true
 ·rw [if_pos hgw]
  have:=h hgw a w K Q ⟨φ,Pub,I,h0,hn,hsl⟩ (fun a' w' hs'=>hK a' w' (by
   obtain ⟨φ',Pub',I',h0',hn',hsl'⟩:=hs';refine ⟨φ',Pub',I',h0',hn',fun s=>?_⟩;have k:=hsl' s;simp only [AS.put,Qb] at k ⊢;split
   ·next e=>rw [if_pos e] at k;unfold RA;exact ⟨fun _=>k,fun hf=>by rw [hgw] at hf;cases hf⟩
   ·next e=>rw [if_neg e] at k;exact k))
  rw [if_pos (by rfl)] at this;exact this
 ·rw [if_neg hgw];refine hK _ _ (Sat.put I h0 hn hsl hd ?_);unfold RA;exact ⟨fun hh=>absurd hh hgw,fun _=>rfl⟩
theorem Qo9 {o:Op} {j gs:Nat} {want g q:Bool} {x:AV} (hj:(ops[j]?).bind (·.dst)=some gs) (hgs:st.ev (.tmp gs)=.cnd g (.p (.v (.bool q)))) (hd:Qxo d n=true)
  (h:(g && (q == want))=true->Qd P E kp n ops ⟨some d,o,ty,ps,af,none⟩ st (st.put d x)):Qd P E kp n ops ⟨some d,o,ty,ps,af,some (j,want)⟩ st (st.put d (.cnd (g && (q == want)) x)):=by
 intro a w K Q hs hK;obtain ⟨φ,Pub,I,h0,hn,hsl⟩:=hs;have e0:=Za (h:=st.heap) hsl (.tmp gs)
 have e1:(g=true->a.tmps.getD gs undef=.bool q)/\(g=false->a.tmps.getD gs undef=undef):=by
  have:RA w Pub φ (.cnd g (.p (.v (.bool q)))) (a.eval (.tmp gs)):=by rw [<- hgs];exact e0
  unfold RA at this;exact ⟨fun hg=>by have:=this.1 hg;unfold RA RP at this;exact this,this.2⟩
 have hw:Region.wanted ⟨some d,o,ty,ps,af,some (j,want)⟩ (yielded ops a.tmps)=(g && (q == want)):=by
  simp only [Region.wanted,yielded,hj,Qxy];rw [Qxp] at e1
  cases g with
  | true =>
   have e2:=e1.1 rfl
   cases hq:a.tmps[gs]? with
   | none=>rw [hq] at e2;simp [undef] at e2
   | some v=>rw [hq] at e2;simp at e2;subst e2;cases q <;> cases want <;> rfl
  | false =>
   have e2:=e1.2 rfl
   cases hq:a.tmps[gs]? with
   | none=>rfl
   | some v=>rw [hq] at e2;simp at e2;subst e2;rfl
 rw [hw];by_cases hgw:(g && (q == want))=true
 ·rw [if_pos hgw]
  have:=h hgw a w K Q ⟨φ,Pub,I,h0,hn,hsl⟩ (fun a' w' hs'=>hK a' w' (by
   obtain ⟨φ',Pub',I',h0',hn',hsl'⟩:=hs';refine ⟨φ',Pub',I',h0',hn',fun s=>?_⟩;have k:=hsl' s;simp only [AS.put,Qb] at k ⊢;split
   ·next e=>rw [if_pos e] at k;unfold RA;exact ⟨fun _=>k,fun hf=>by rw [hgw] at hf;cases hf⟩
   ·next e=>rw [if_neg e] at k;exact k))
  rw [if_pos (by rfl)] at this;exact this
 ·rw [if_neg hgw];refine hK _ _ (Sat.put I h0 hn hsl hd ?_);unfold RA;exact ⟨fun hh=>absurd hh hgw,fun _=>rfl⟩
theorem Zu {op:BinOp} {T T':TypeId} {x y:Operand} {u v r:Value} (hx:Gv (st.ev x) (.p (.v u))) (hy:Gv (st.ev y) (.p (.v v))) (hd:Qxo d n=true)
  (hr:∀ w,Sem.run P (do eqGuard op T x y u v;binOp op T u v) w=.ok r w):Qd P E kp n ops ⟨some d,.binOp op T x y T',ty,ps,af,none⟩ st (st.put d (.p (.v r))) :=
 Qw _ rfl rfl hd fun a w φ Pub I hs=>by
  have e1:=hx.v (hs x);have e2:=hy.v (hs y);have h:=hr w;refine ⟨r,?_,by simp [RA,RP]⟩;simp only [execOp,e1,e2];rw [Sem.run_bind,h];rfl
section
variable {T T':TypeId} {x y:Operand} {k:IntKind} {i j:Int} (hx:Gv (st.ev x) (.p (.v (.int k i)))) (hy:Gv (st.ev y) (.p (.v (.int k j)))) (hd:Qxo d n=true)
include hx hy hd
theorem S_lt:Qd P E kp n ops ⟨some d,.binOp .lss T x y T',ty,ps,af,none⟩ st (st.put d (.p (.v (.bool (decide (i < j)))))):=Zu hx hy hd fun w=>by simp [eqGuard,binOp,Op.intCmp]
theorem S_le:Qd P E kp n ops ⟨some d,.binOp .leq T x y T',ty,ps,af,none⟩ st (st.put d (.p (.v (.bool (decide (i<=j)))))):=Zu hx hy hd fun w=>by simp [eqGuard,binOp,Op.intCmp]
theorem S_gt:Qd P E kp n ops ⟨some d,.binOp .gtr T x y T',ty,ps,af,none⟩ st (st.put d (.p (.v (.bool (decide (j < i)))))):=Zu hx hy hd fun w=>by simp [eqGuard,binOp,Op.intCmp]
theorem S_ge:Qd P E kp n ops ⟨some d,.binOp .geq T x y T',ty,ps,af,none⟩ st (st.put d (.p (.v (.bool (decide (j<=i)))))):=Zu hx hy hd fun w=>by simp [eqGuard,binOp,Op.intCmp]
theorem S_eq:Qd P E kp n ops ⟨some d,.binOp .eql T x y T',ty,ps,af,none⟩ st (st.put d (.p (.v (.bool (decide (i=j)))))):=Zu hx hy hd fun w=>by simp [eqGuard,binOp,Op.intCmp];rfl
theorem S_ne:Qd P E kp n ops ⟨some d,.binOp .neq T x y T',ty,ps,af,none⟩ st (st.put d (.p (.v (.bool (!decide (i=j)))))):=Zu hx hy hd fun w=>by simp [eqGuard,binOp,Op.intCmp];rfl
theorem QjN {r:Int} (hr:k.wrap (i+j)=r):Qd P E kp n ops ⟨some d,.binOp .add T x y T',ty,ps,af,none⟩ st (st.put d (.p (.v (.int k r)))):=Zu hx hy hd fun w=>by simp [eqGuard,binOp,Op.intArith,hr]
theorem QjO {r:Int} (hr:k.wrap (i - j)=r):Qd P E kp n ops ⟨some d,.binOp .sub T x y T',ty,ps,af,none⟩ st (st.put d (.p (.v (.int k r)))):=Zu hx hy hd fun w=>by simp [eqGuard,binOp,Op.intArith,hr]
theorem QvN {r:Int} (hr:k.wrap (i * j)=r):Qd P E kp n ops ⟨some d,.binOp .mul T x y T',ty,ps,af,none⟩ st (st.put d (.p (.v (.int k r)))):=Zu hx hy hd fun w=>by simp [eqGuard,binOp,Op.intArith,hr]
theorem QvO {r:Int} (h0:j≠0) (hr:k.wrap (i.tdiv j)=r):Qd P E kp n ops ⟨some d,.binOp .quo T x y T',ty,ps,af,none⟩ st (st.put d (.p (.v (.int k r)))):=Zu hx hy hd fun w=>by simp [eqGuard,binOp,Op.intDiv,h0,hr]
theorem QvP {r:Int} (h0:j≠0) (hr:i.tmod j=r):Qd P E kp n ops ⟨some d,.binOp .rem T x y T',ty,ps,af,none⟩ st (st.put d (.p (.v (.int k r)))):=Zu hx hy hd fun w=>by simp [eqGuard,binOp,Op.intDiv,h0,hr]
theorem QjP {r:Int} (hr:k.wrap ((Qxq k.bits i &&& Qxq k.bits j).toNat:Int)=r):Qd P E kp n ops ⟨some d,.binOp .and T x y T',ty,ps,af,none⟩ st (st.put d (.p (.v (.int k r)))):=Zu hx hy hd fun w=>by simp only [eqGuard,binOp,Op.intBits,hr];simp
theorem Qpa {r:Int} (hr:k.wrap ((Qxq k.bits i ||| Qxq k.bits j).toNat:Int)=r):Qd P E kp n ops ⟨some d,.binOp .or T x y T',ty,ps,af,none⟩ st (st.put d (.p (.v (.int k r)))):=Zu hx hy hd fun w=>by simp only [eqGuard,binOp,Op.intBits,hr];simp
theorem QjQ {r:Int} (hr:k.wrap ((Qxq k.bits i ^^^ Qxq k.bits j).toNat:Int)=r):Qd P E kp n ops ⟨some d,.binOp .xor T x y T',ty,ps,af,none⟩ st (st.put d (.p (.v (.int k r)))):=Zu hx hy hd fun w=>by simp only [eqGuard,binOp,Op.intBits,hr];simp
theorem Qni {r:Int} (hr:k.wrap ((Qxq k.bits i &&& ~~~ Qxq k.bits j).toNat:Int)=r):Qd P E kp n ops ⟨some d,.binOp .andNot T x y T',ty,ps,af,none⟩ st (st.put d (.p (.v (.int k r)))):=Zu hx hy hd fun w=>by simp only [eqGuard,binOp,Op.intBits,hr];simp
end
theorem QjR {T T':TypeId} {x y:Operand} {k k':IntKind} {i j q:Int} (hx:Gv (st.ev x) (.p (.v (.int k i)))) (hy:Gv (st.ev y) (.p (.v (.int k' j)))) (hd:Qxo d n=true) (h0:decide (j < 0)=false) (hq:(2:Int) ^ (min j.toNat k.bits)=q):Qd P E kp n ops ⟨some d,.binOp .shr T x y T',ty,ps,af,none⟩ st (st.put d (.p (.v (.int k (i / q))))):=Zu hx hy hd fun w=>by
 have h0:=of_decide_eq_false h0
 have e:i.fdiv (2 ^ (min j.toNat k.bits))=i / q:=by
  rw [hq,Int.fdiv_eq_ediv_of_nonneg];rw [<- hq];exact Int.le_of_lt (Int.pow_pos (by decide))
 simp [eqGuard,binOp,Op.shift,h0,e]
theorem QjS {T T':TypeId} {x y:Operand} {k k':IntKind} {i j q r:Int} (hx:Gv (st.ev x) (.p (.v (.int k i)))) (hy:Gv (st.ev y) (.p (.v (.int k' j)))) (hd:Qxo d n=true) (h0:decide (j < 0)=false) (hq:(2:Int) ^ (min j.toNat k.bits)=q) (hr:k.wrap (i * q)=r):Qd P E kp n ops ⟨some d,.binOp .shl T x y T',ty,ps,af,none⟩ st (st.put d (.p (.v (.int k r)))):=Zu hx hy hd fun w=>by
 have h0:=of_decide_eq_false h0;simp [eqGuard,binOp,Op.shift,h0,hq,hr]
end
end
section
open Go.RowKit
section
variable {P:Program} {E:Env} {kp:List Nat} {n:Nat} {ops:Array Oper} {st st':AS} {d:Nat} {ty:TypeId} {ps:String} {af:Array Edge}
theorem Z7 {T:TypeId} {g:Bool} (hT:Q4 P T=some g) (w:World):(isAgg T).run P w=.ok g w:=by
 unfold Q4 at hT
 cases hu:P.underlying T with
 | none=>rw [hu] at hT;cases hT
 | some dd =>
  rw [hu] at hT;simp only [Qxr,Qxw.injEq] at hT;unfold isAgg;rw [Sem.run_bind,run_underlying hu w];cases dd <;> simp [TypeDesc.isRow] at hT <;> subst hT <;> rfl
theorem Qp {T:TypeId} {s:Nat} (hT:Zh P T=some s) (w:World):(sizeOf T).run P w=.ok s w:=by
 unfold Zh at hT
 cases hu:P.info? T with
 | none=>rw [hu] at hT;cases hT
 | some i =>
  rw [hu] at hT;simp only [Qxr,Qxw.injEq] at hT;simp [sizeOf,typeInfo,hu,hT]
theorem Xt {T:TypeId} {z:List Value} (hT:QjM P T=some z) (w:World):∃ v:Value,(zeroValue T).run P w=.ok v w/\v.cells=z.toArray:=by
 unfold QjM at hT
 cases hu:P.info? T with
 | none=>rw [hu] at hT;cases hT
 | some i =>
  rw [hu] at hT;simp only [Qxy] at hT
  cases hz:i.zero with
  | none=>rw [hz] at hT;cases hT
  | some v =>
   rw [hz] at hT;simp only [Qxr,Qxw.injEq] at hT;exact ⟨v,by simp [zeroValue,typeInfo,hu,hz],by rw [<- hT]⟩
theorem Qhg {x:Operand} {r off:Nat} (hx:Gv (st.ev x) (.own r off)) (hd:Qxo d n=true):Qd P E kp n ops ⟨some d,.nilCheck x,ty,ps,af,none⟩ st (st.put d (.own r off)) :=
 Qw _ rfl rfl hd fun a w φ Pub I hs=>by
  have h:=hx _ _ _ _ (hs x);refine ⟨a.eval x,?_,h⟩;unfold RA at h;obtain ⟨b,c,_,e⟩:=h;simp [execOp,e]
theorem QlF {x:Operand} {cells:List PV} {off:Nat} (hx:Gv (st.ev x) (.p (.pp cells off))) (hd:Qxo d n=true):Qd P E kp n ops ⟨some d,.nilCheck x,ty,ps,af,none⟩ st (st.put d (.p (.pp cells off))) :=
 Qw _ rfl rfl hd fun a w φ Pub I hs=>by
  have h:=hx _ _ _ _ (hs x);refine ⟨a.eval x,?_,h⟩;unfold RA RP at h;obtain ⟨b,c,e,_⟩:=h;simp [execOp,e]
theorem Qhh {T:TypeId} {fs:Array Field} {pl:List (Nat×Nat)} (hu:P.underlying T=some (.struct fs)) (hp:Qbc P T=some pl) {i o s:Nat} (hi:pl[i]? = some (o,s)) :
  ∃ f,fs[i]? = some f/\f.offset=o/\Zh P f.type=some s:=by
 unfold Qbc at hp;rw [hu] at hp;simp only at hp
 have key:∀ (l:List Field) (pl:List (Nat×Nat)) (i:Nat),(l.mapM fun f=>(P.info? f.type).map fun i=>(f.offset,i.size))=some pl->pl[i]? = some (o,s)->∃ f,l[i]? = some f/\f.offset=o/\Zh P f.type=some s:=by
  intro l
  induction l with
  | nil=>intro pl i h1 h2;simp at h1;subst h1;simp at h2
  | cons f l ih =>
   intro pl i h1 h2;rw [List.mapM_cons] at h1
   cases hq:P.info? f.type with
   | none=>rw [hq] at h1;cases h1
   | some fi =>
    rw [hq] at h1
    cases hl:(l.mapM fun f=>(P.info? f.type).map fun i=>(f.offset,i.size)) with
    | none=>simp only [hl] at h1;cases h1
    | some pl' =>
     simp only [hl,Qxr] at h1;cases h1
     cases i with
     | zero =>
      simp at h2;exact ⟨f,rfl,h2.1,by unfold Zh;rw [hq];simp [h2.2]⟩
     | succ i =>
      simp at h2;obtain ⟨f',h3,h4⟩:=ih pl' i hl h2;exact ⟨f',by simpa using h3,h4⟩
 obtain ⟨f,h1,h2⟩:=key fs.toList pl i hp hi;exact ⟨f,by simpa using h1,h2⟩
theorem Qbd {T:TypeId} {pl:List (Nat×Nat)} (hp:Qbc P T=some pl):∃ fs,P.underlying T=some (.struct fs):=by
 unfold Qbc at hp;split at hp
 ·next fs h=>exact ⟨fs,h⟩
 ·cases hp
theorem QbQ {T:TypeId} {pl:List (Nat×Nat)} (hp:Qbc P T=some pl) {i o s:Nat} (hi:pl[i]? = some (o,s)) (hs:s≠0) (b off:Nat) (w:World) :
  (Instr.fieldAt T (.pointer (some ⟨b,off,none⟩)) i).run P w=.ok (.pointer (some ⟨b,off+o,none⟩)) w:=by
 obtain ⟨fs,hu⟩:=Qbd hp;obtain ⟨f,h1,h2,h3⟩:=Qhh hu hp hi;unfold Instr.fieldAt;rw [Sem.run_bind,run_underlying hu w];simp [h1,Instr.sureAddr,fieldPlace,Qp h3,hs,h2,Addr.add_mid]
theorem QcS {T:TypeId} {x:Operand} {f r off o s:Nat} {pl:List (Nat×Nat)} (hx:Gv (st.ev x) (.own r off)) (hp:Qbc P T=some pl) (hi:pl[f]? = some (o,s)) (hs:s≠0) (hd:Qxo d n=true) :
  Qd P E kp n ops ⟨some d,.fieldAddr T x f,ty,ps,af,none⟩ st (st.put d (.own r (off+o))) :=
 Qw _ rfl rfl hd fun a w φ Pub I hR=>by
  have h:=hx _ _ _ _ (hR x);unfold RA at h;obtain ⟨b,c,e0,e⟩:=h;refine ⟨.pointer (some ⟨b,off+o,none⟩),?_,by unfold RA;exact ⟨b,c,e0,rfl⟩⟩;simp only [execOp,e];rw [Sem.run_bind,QbQ hp hi hs];rfl
theorem QeP {T:TypeId} {x:Operand} {f off o s:Nat} {cells:List PV} {pl:List (Nat×Nat)} (hx:Gv (st.ev x) (.p (.pp cells off))) (hp:Qbc P T=some pl) (hi:pl[f]? = some (o,s)) (hs:s≠0) (hd:Qxo d n=true) :
  Qd P E kp n ops ⟨some d,.fieldAddr T x f,ty,ps,af,none⟩ st (st.put d (.p (.pp cells (off+o)))) :=
 Qw _ rfl rfl hd fun a w φ Pub I hR=>by
  have h:=hx _ _ _ _ (hR x);unfold RA RP at h;obtain ⟨b,q,e,h⟩:=h;refine ⟨.pointer (some ⟨b,q+(off+o),none⟩),?_,by unfold RA RP;exact ⟨b,q,rfl,h⟩⟩;simp only [execOp,e];rw [Sem.run_bind,QbQ hp hi hs,Nat.add_assoc];rfl
theorem Zv {T e:TypeId} {s:Nat} (hT:X8 P T=some (e,s)):P.underlying T=some (.slice e)/\Zh P e=some s:=by
 unfold X8 at hT;split at hT
 ·next e' h =>
  cases hq:P.info? e' with
  | none=>rw [hq] at hT;cases hT
  | some i =>
   rw [hq] at hT;simp only [Qxr,Qxw.injEq,Prod.mk.injEq] at hT;obtain ⟨rfl,h2⟩:=hT;exact ⟨h,by unfold Zh;rw [hq];simp [h2]⟩
 ·cases hT
theorem Qvl {T:TypeId} {m s:Nat} (hT:Qhf P T=some (m,s)):∃ e,P.underlying T=some (.array m e)/\Zh P e=some s:=by
 unfold Qhf at hT;split at hT
 ·next m' e' h =>
  cases hq:P.info? e' with
  | none=>rw [hq] at hT;cases hT
  | some i =>
   rw [hq] at hT;simp only [Qxr,Qxw.injEq,Prod.mk.injEq] at hT;obtain ⟨rfl,h2⟩:=hT;exact ⟨e',h,by unfold Zh;rw [hq];simp [h2]⟩
 ·cases hT
theorem QbR {T e:TypeId} {s:Nat} (hT:X8 P T=some (e,s)) (b off m c:Nat) {k:IntKind} {i:Int} (h0:0<=i) (h1:i < m) (w:World) :
  (Instr.indexAt T (.slice (some ⟨b,off,none⟩) m c) (.int k i)).run P w=.ok (.pointer (some ⟨b,off+i.toNat * s,none⟩)) w:=by
 obtain ⟨hu,hs⟩:=Zv hT;simp [Instr.indexAt,asIntOf,run_underlying hu,h0,h1,Qp hs,Addr.add_mid]
theorem QbS {T:TypeId} {m s:Nat} (hT:Qhf P T=some (m,s)) (b off:Nat) {k:IntKind} {i:Int} (h0:0<=i) (h1:i < m) (w:World) :
  (Instr.indexAt T (.pointer (some ⟨b,off,none⟩)) (.int k i)).run P w=.ok (.pointer (some ⟨b,off+i.toNat * s,none⟩)) w:=by
 obtain ⟨e,hu,hs⟩:=Qvl hT;simp [Instr.indexAt,asIntOf,run_underlying hu,Instr.sureAddr,h0,h1,Qp hs,Addr.add_mid]
section
variable {T e:TypeId} {x y:Operand} {k:IntKind} {i:Int} {s:Nat} (hy:Gv (st.ev y) (.p (.v (.int k i)))) (hd:Qxo d n=true)
include hy hd
theorem Qbe {cells:List PV} {m:Nat} (hx:Gv (st.ev x) (.p (.sl cells m))) (hT:X8 P T=some (e,s)) (h0:0<=i) (h1:i < m) :
  Qd P E kp n ops ⟨some d,.indexAddr T x y,ty,ps,af,none⟩ st (st.put d (.p (.pp cells (i.toNat * s)))) :=
 Qw _ rfl rfl hd fun a w φ Pub I hR=>by
  have h:=hx _ _ _ _ (hR x);unfold RA RP at h;obtain ⟨ad,c,e1,h2,h3,h3',h4⟩:=h;rcases h4 with h4 | ⟨b,o,e4,h4⟩
  ·omega
  subst e4;refine ⟨.pointer (some ⟨b,o+i.toNat * s,none⟩),?_,by unfold RA RP;exact ⟨b,o,rfl,h4⟩⟩;simp only [execOp,e1,hy.v (hR y)];rw [Sem.run_bind,QbR hT b o m c h0 h1];rfl
theorem QjT {r m sz pub:Nat} {cells:List PV} {t:TypeId} (hx:Gv (st.ev x) (.osl r m)) (hT:X8 P T=some (e,s)) (h0:0<=i) (h1:i < m) :
  Qd P E kp n ops ⟨some d,.indexAddr T x y,ty,ps,af,none⟩ st (st.put d (.own r (i.toNat * s))) :=
 Qw _ rfl rfl hd fun a w φ Pub I hR=>by
  have h:=hx _ _ _ _ (hR x);unfold RA at h;rcases h with ⟨b,c,e1,e2,h3⟩ | ⟨_,h2,_⟩
  ·refine ⟨.pointer (some ⟨b,0+i.toNat * s,none⟩),?_,by unfold RA;exact ⟨b,c,e1,by rw [Nat.zero_add]⟩⟩;simp only [execOp,e2,hy.v (hR y)];rw [Sem.run_bind,QbR hT b 0 m c h0 h1];rfl
  ·omega
theorem QjU {r off m:Nat} (hx:Gv (st.ev x) (.own r off)) (hT:Qhf P T=some (m,s)) (h0:0<=i) (h1:i < m) :
  Qd P E kp n ops ⟨some d,.indexAddr T x y,ty,ps,af,none⟩ st (st.put d (.own r (off+i.toNat * s))) :=
 Qw _ rfl rfl hd fun a w φ Pub I hR=>by
  have h:=hx _ _ _ _ (hR x);unfold RA at h;obtain ⟨b,c,e0,e1⟩:=h;refine ⟨.pointer (some ⟨b,off+i.toNat * s,none⟩),?_,by unfold RA;exact ⟨b,c,e0,rfl⟩⟩;simp only [execOp,e1,hy.v (hR y)];rw [Sem.run_bind,QbS hT b off h0 h1];rfl
theorem QfR {off m:Nat} {cells:List PV} (hx:Gv (st.ev x) (.p (.pp cells off))) (hT:Qhf P T=some (m,s)) (h0:0<=i) (h1:i < m) :
  Qd P E kp n ops ⟨some d,.indexAddr T x y,ty,ps,af,none⟩ st (st.put d (.p (.pp cells (off+i.toNat * s)))) :=
 Qw _ rfl rfl hd fun a w φ Pub I hR=>by
  have h:=hx _ _ _ _ (hR x);unfold RA RP at h;obtain ⟨b,q,e1,h⟩:=h;refine ⟨.pointer (some ⟨b,q+(off+i.toNat * s),none⟩),?_,by unfold RA RP;exact ⟨b,q,rfl,h⟩⟩;simp only [execOp,e1,hy.v (hR y)];rw [Sem.run_bind,QbS hT b (q+off) h0 h1,Nat.add_assoc];rfl
theorem QjV {l:List UInt8} {c:UInt8} (hx:Gv (st.ev x) (.p (.v (.string ⟨l.toArray⟩)))) (hT:P.underlying T=some .string) (h0:0<=i) (h1:l[i.toNat]? = some c) :
  Qd P E kp n ops ⟨some d,.index T x y,ty,ps,af,none⟩ st (st.put d (.p (.v (.int .u8 (c.toNat:Int))))) :=
 Qw _ rfl rfl hd fun a w φ Pub I hR=>by
  refine ⟨.int .u8 (c.toNat:Int),?_,by simp [RA,RP]⟩
  have hg:(⟨l.toArray⟩:ByteArray)[i.toNat]? = some c:=by
   have hlt:i.toNat < l.length:=(Qxt.1 h1).1;have hlt':i.toNat < (⟨l.toArray⟩:ByteArray).size:=by simpa [ByteArray.size] using hlt
   have h2:=(Qxt.1 h1).2;rw [getElem?_pos (⟨l.toArray⟩:ByteArray) i.toNat hlt',<- h2];rfl
  simp only [execOp,hx.v (hR x),hy.v (hR y)];rw [Sem.run_bind];simp [Instr.index,asIntOf,run_underlying hT,h0,hg]
theorem QcT {l:List AV} {m:Nat} {v:AV} (hx:Gv (st.ev x) (.agg l)) (hT:P.underlying T=some (.array m e)) (he:Q4 P e=some false) (hz:Zh P e=some 1) (h0:0<=i) (h1:i < m) (hv:l[i.toNat]? = some v) :
  Qd P E kp n ops ⟨some d,.index T x y,ty,ps,af,none⟩ st (st.put d v) :=
 Qw _ rfl rfl hd fun a w φ Pub I hR=>by
  have h:=hx _ _ _ _ (hR x);unfold RA at h;obtain ⟨vs,e1,h⟩:=h;obtain ⟨u,hu,hRv⟩:=X7 h hv;refine ⟨u,?_,hRv⟩;simp only [execOp,e1,hy.v (hR y)];rw [Sem.run_bind];simp [Instr.index,asIntOf,run_underlying hT,h0,h1,Qp hz,part,Z7 he,hu]
theorem Qhi {l:List AV} {m:Nat} {v:List AV} (hx:Gv (st.ev x) (.agg l)) (hT:P.underlying T=some (.array m e)) (he:Q4 P e=some true) (hz:Zh P e=some s) (h0:0<=i) (h1:i < m) (hv:(l.drop (i.toNat * s)).take s=v) :
  Qd P E kp n ops ⟨some d,.index T x y,ty,ps,af,none⟩ st (st.put d (.agg v)) :=
 Qw _ rfl rfl hd fun a w φ Pub I hR=>by
  have h:=hx _ _ _ _ (hR x);unfold RA at h;obtain ⟨vs,e1,h⟩:=h;refine ⟨.agg (vs.toArray.extract (i.toNat * s) (i.toNat * s+s)),?_,?_⟩
  ·simp only [execOp,e1,hy.v (hR y)];rw [Sem.run_bind];simp [Instr.index,asIntOf,run_underlying hT,h0,h1,Qp hz,part,Z7 he]
  ·unfold RA;refine ⟨(vs.drop (i.toNat * s)).take s,?_,by rw [<- hv];exact VD s (VC _ h)⟩;simp
end
theorem XC {T:TypeId} (hT:Q4 P T=some false) {b off:Nat} {u:Value} {w:World} (hc:w.cell? ⟨b,off,none⟩=some u):(Instr.loadAt T (.pointer (some ⟨b,off,none⟩))).run P w=.ok u w:=by
 simp [Instr.loadAt,Instr.sureAddr,loadVar,Z7 hT,load,Sem.run,hc]
theorem XD {T:TypeId} {s:Nat} (hT:Q4 P T=some true) (hs:Zh P T=some s) {b off:Nat} {vs:List Value} {w:World} (hl:vs.length=s) (hc:w.rangeAt b off vs) :
  (Instr.loadAt T (.pointer (some ⟨b,off,none⟩))).run P w=.ok (.agg vs.toArray) w:=by
 have hl':(loadCells ⟨b,off,none⟩ s).run P w=.ok vs.toArray w:=by
  rw [<- hl];exact run_loadCells_list (P:=P) w ⟨b,off,none⟩ vs (fun j v hv=>by rw [Addr.add_mid];exact hc j v hv)
 simp [Instr.loadAt,Instr.sureAddr,loadVar,Z7 hT,Qp hs,hl']
section
variable {φ:Qi} {Pub:Nat->Nat->Prop} {h:List (Nat×OB)} {w:World}
theorem YD (I:Inv E kp φ Pub h w) {r b c:Nat} {cells:List AV} {t:TypeId} (hl:look OB.dead h r=.box cells t) (hr:φ r=some (b,c)) :
  ∃ cur:Array Value,w.heap[b]? = some (.cells cur t (0,0))/\RAs w Pub φ cells cur.toList /\ ∀ u∈cur.toList,u.oneCell'=true:=by
 have k:=I.own r;rw [hl] at k;obtain ⟨b',cur,k1,k2,k3,k4,k5⟩:=k;rw [hr] at k1;cases k1;exact ⟨cur,k2,k3,k4⟩
theorem X9 (I:Inv E kp φ Pub h w) {r b c sz pub:Nat} {cells:List PV} {t:TypeId} (hl:look OB.dead h r=.row cells t sz pub) (hr:φ r=some (b,c)) :
  ∃ vs:List Value,RPs w Pub cells vs/\(∀ u∈vs,u.oneCell'=true) /\ ∀ j u,vs[j]? = some u->w.cell? ⟨b,j,none⟩=some u:=by
 have k:=I.own r;rw [hl] at k;rcases k with ⟨k0,_⟩ | ⟨b',c',cur,fr,k1,⟨k2,k2'⟩,k3,k4,k5,k6,k7,k8⟩
 ·rw [hr] at k0;cases k0
 rw [hr] at k1;cases k1;refine ⟨_,k6,k7,fun j u hj=>?_⟩;rw [cell_of_row w b j cur t fr k2];rw [Qxu] at hj;split at hj
 ·simpa using hj
 ·cases hj
end
section
variable {T:TypeId} {x:Operand} (hd:Qxo d n=true)
include hd
theorem QeQ {r off:Nat} {cells:List AV} {t:TypeId} {v:AV} (hx:Gv (st.ev x) (.own r off)) (hT:Q4 P T=some false) (hl:st.ob r=.box cells t) (hv:cells[off]? = some v) :
  Qd P E kp n ops ⟨some d,.load T x,ty,ps,af,none⟩ st (st.put d v) :=
 Qw _ rfl rfl hd fun a w φ Pub I hR=>by
  have h:=hx _ _ _ _ (hR x);unfold RA at h;obtain ⟨b,c,e0,e⟩:=h;obtain ⟨cur,c1,c2,_⟩:=YD I hl e0;obtain ⟨u,hu,hRv⟩:=X7 c2 hv;refine ⟨u,?_,hRv⟩;simp only [execOp,e];rw [Sem.run_bind,XC hT (by rw [cell_of_row w b off cur t (0,0) c1];simpa using hu)];rfl
theorem QcU {r off s:Nat} {cells:List AV} {t:TypeId} {l:List AV} (hx:Gv (st.ev x) (.own r off)) (hT:Q4 P T=some true) (hs:Zh P T=some s) (hl:st.ob r=.box cells t)
  (hv:(cells.drop off).take s=l) (hlen:l.length=s):Qd P E kp n ops ⟨some d,.load T x,ty,ps,af,none⟩ st (st.put d (.agg l)) :=
 Qw _ rfl rfl hd fun a w φ Pub I hR=>by
  have h:=hx _ _ _ _ (hR x);unfold RA at h;obtain ⟨b,c,e0,e⟩:=h;obtain ⟨cur,c1,c2,_⟩:=YD I hl e0;have c3:=VD s (VC off c2);rw [hv] at c3;refine ⟨_,?_,by unfold RA;exact ⟨_,rfl,c3⟩⟩;simp only [execOp,e]
  rw [Sem.run_bind,XD hT hs (by rw [QU c3];exact hlen) (fun j v hj=>by
   rw [cell_of_row w b _ cur t (0,0) c1];rw [Qxu] at hj;split at hj
   ·rw [Qxx] at hj;simpa using hj
   ·cases hj)];rfl
theorem Qbf {r off sz pub:Nat} {cells:List PV} {t:TypeId} {v:PV} (hx:Gv (st.ev x) (.own r off)) (hT:Q4 P T=some false) (hl:st.ob r=.row cells t sz pub) (hv:cells[off]? = some v) :
  Qd P E kp n ops ⟨some d,.load T x,ty,ps,af,none⟩ st (st.put d (.p v)) :=
 Qw _ rfl rfl hd fun a w φ Pub I hR=>by
  have h:=hx _ _ _ _ (hR x);unfold RA at h;obtain ⟨b,c,e0,e⟩:=h;obtain ⟨vs,c1,c2,c3⟩:=X9 I hl e0;obtain ⟨u,hu,hRv⟩:=QfP c1 hv;refine ⟨u,?_,by unfold RA;exact hRv⟩;simp only [execOp,e];rw [Sem.run_bind,XC hT (c3 off u hu)];rfl
theorem QcV {r off s sz pub:Nat} {cells:List PV} {t:TypeId} {l:List PV} (hx:Gv (st.ev x) (.own r off)) (hT:Q4 P T=some true) (hs:Zh P T=some s) (hl:st.ob r=.row cells t sz pub)
  (hv:(cells.drop off).take s=l) (hlen:l.length=s):Qd P E kp n ops ⟨some d,.load T x,ty,ps,af,none⟩ st (st.put d (.p (.agg l))) :=
 Qw _ rfl rfl hd fun a w φ Pub I hR=>by
  have h:=hx _ _ _ _ (hR x);unfold RA at h;obtain ⟨b,c,e0,e⟩:=h;obtain ⟨vs,c1,c2,c3⟩:=X9 I hl e0;have c4:=Qab s (QcR off c1);rw [hv] at c4;refine ⟨_,?_,by unfold RA RP;exact ⟨_,rfl,c4⟩⟩;simp only [execOp,e]
  rw [Sem.run_bind,XD hT hs (by rw [Wi c4];exact hlen) (fun j v hj=>by
   rw [Qxu] at hj;split at hj
   ·rw [Qxx] at hj;exact c3 _ _ hj
   ·cases hj)];rfl
theorem QcW {off:Nat} {cells:List PV} {v:PV} (hx:Gv (st.ev x) (.p (.pp cells off))) (hT:Q4 P T=some false) (hv:cells[off]? = some v) :
  Qd P E kp n ops ⟨some d,.load T x,ty,ps,af,none⟩ st (st.put d (.p v)) :=
 Qw _ rfl rfl hd fun a w φ Pub I hR=>by
  have h:=hx _ _ _ _ (hR x);unfold RA RP at h;obtain ⟨b,o,e,hc⟩:=h;obtain ⟨u,hu,_,_,hRv⟩:=Jd hc hv;refine ⟨u,?_,by unfold RA;exact hRv⟩;simp only [execOp,e];rw [Sem.run_bind,XC hT hu];rfl
theorem QeR {off s:Nat} {cells:List PV} {l:List PV} (hx:Gv (st.ev x) (.p (.pp cells off))) (hT:Q4 P T=some true) (hs:Zh P T=some s)
  (hv:(cells.drop off).take s=l) (hlen:l.length=s):Qd P E kp n ops ⟨some d,.load T x,ty,ps,af,none⟩ st (st.put d (.p (.agg l))) :=
 Qw _ rfl rfl hd fun a w φ Pub I hR=>by
  have h:=hx _ _ _ _ (hR x);unfold RA RP at h;obtain ⟨b,o,e,hc⟩:=h;have hc2:=Qhd s (Qhc off hc);rw [hv] at hc2;obtain ⟨vs,c1,c2,c3⟩:=Qac hc2;refine ⟨_,?_,by unfold RA RP;exact ⟨_,rfl,c1⟩⟩;simp only [execOp,e];rw [Sem.run_bind,XD hT hs (by rw [Wi c1];exact hlen) (fun j v hj=>c3 j v hj)];rfl
theorem Qpb {f o s:Nat} {l:List AV} {v:AV} {pl:List (Nat×Nat)} {fs:Array Field} (hx:Gv (st.ev x) (.agg l)) (hp:Qbc P T=some pl) (hi:pl[f]? = some (o,s))
  (hf:∀ fs fd,P.underlying T=some (.struct fs)->fs[f]? = some fd->Q4 P fd.type=some false) (hv:l[o]? = some v) :
  Qd P E kp n ops ⟨some d,.field T x f,ty,ps,af,none⟩ st (st.put d v) :=
 Qw _ rfl rfl hd fun a w φ Pub I hR=>by
  have h:=hx _ _ _ _ (hR x);unfold RA at h;obtain ⟨vs,e,h⟩:=h;obtain ⟨fs,hu⟩:=Qbd hp;obtain ⟨fd,h1,h2,h3⟩:=Qhh hu hp hi;obtain ⟨u,h4,h5⟩:=X7 h hv;refine ⟨u,?_,h5⟩;simp only [execOp,e];rw [Sem.run_bind];simp [Instr.field,run_underlying hu,h1,asAgg,part,Z7 (hf fs fd hu h1),h2,h4]
theorem Qnj {i:Nat} {l:List AV} {v:AV} (hx:Gv (st.ev x) (.tup l)) (hv:l[i]? = some v):Qd P E kp n ops ⟨some d,.extract x i,ty,ps,af,none⟩ st (st.put d v) :=
 Qw _ rfl rfl hd fun a w φ Pub I hR=>by
  have h:=hx _ _ _ _ (hR x);unfold RA at h;obtain ⟨vs,e,h⟩:=h;obtain ⟨u,h4,h5⟩:=X7 h hv;exact ⟨u,by simp [execOp,e,Instr.extract,h4],h5⟩
end
def AV.cs:AV->List AV
 | .agg l=>l
 | .p (.agg l)=>l.map .p
 | x=>[x]
def AV.one:AV->Bool
 | .p (.v u)=>u.oneCell'
 | .p (.pp _ _)=>true
 | .p (.sl _ _)=>true
 | .p (.fn _ _)=>true
 | .own _ _=>true
 | .osl _ _=>true
 | .mref _=>true
 | .oss _ _ _ _=>true
 | _=>false
def WZ:List AV->Bool
 | []=>true
 | x::xs=>x.one && WZ xs
section
variable {φ:Qi} {Pub:Nat->Nat->Prop} {w:World}
theorem Qvm {x:AV} {u:Value} (h1:x.one=true) (h:RA w Pub φ x u):u.oneCell'=true:=by
 cases x with
 | p q =>
  cases q with
  | v z=>unfold RA RP at h;subst h;exact h1
  | pp cells off=>unfold RA RP at h;obtain ⟨b,o,rfl,_⟩:=h;rfl
  | sl cells m=>unfold RA RP at h;obtain ⟨b,o,rfl,_⟩:=h;rfl
  | fn f caps=>unfold RA RP at h;obtain ⟨b,rfl,_⟩:=h;rfl
  | _=>cases h1
 | own r off=>unfold RA at h;obtain ⟨b,o,_,rfl⟩:=h;rfl
 | osl r m =>
  unfold RA at h;rcases h with ⟨b,o,_,rfl,_⟩ | ⟨_,_,rfl⟩ <;> rfl
 | mref r=>unfold RA at h;obtain ⟨b,_,rfl⟩:=h;rfl
 | oss r k m s =>
  unfold RA at h;rcases h with ⟨b,c,o,c',_,rfl,_⟩ | ⟨_,_,_,rfl⟩ <;> rfl
 | _=>cases h1
theorem VE:∀ {l:List AV} {us:List Value},WZ l=true->RAs w Pub φ l us -> ∀ u∈us,u.oneCell'=true
 | [],us,_,h,u,hu=>by unfold RAs at h;subst h;cases hu
 | x::xs,us,h1,h,u,hu=>by
  unfold RAs at h;obtain ⟨v,vs,rfl,h2,h3⟩:=h;simp only [WZ,Qxz] at h1;rcases List.mem_cons.1 hu with rfl | hu
  ·exact Qvm h1.1 h2
  ·exact VE h1.2 h3 u hu
theorem Qvn:∀ {l:List PV} {us:List Value},RPs w Pub l us->RAs w Pub φ (l.map .p) us
 | [],us,h=>by unfold RPs at h;simp only [QxB];unfold RAs;exact h
 | x::xs,us,h=>by
  unfold RPs at h;obtain ⟨v,vs,rfl,h2,h3⟩:=h;rw [Qxv];unfold RAs;exact ⟨v,vs,rfl,by unfold RA;exact h2,Qvn h3⟩
theorem QeI {u:Value} (h:u.oneCell'=true):u.cells = #[u]:=by cases u <;> first | rfl | cases h
theorem Qpc {x:AV} {u:Value} (h1:WZ x.cs=true) (h:RA w Pub φ x u):RAs w Pub φ x.cs u.cells.toList /\ ∀ v∈u.cells.toList,v.oneCell'=true:=by
 have single:∀ y:AV,y.one=true->RA w Pub φ y u->RAs w Pub φ [y] u.cells.toList /\ ∀ v∈u.cells.toList,v.oneCell'=true:=fun y hy hR=>by
  have h2:=Qvm hy hR;rw [QeI h2];refine ⟨by unfold RAs;exact ⟨u,[],rfl,hR,by unfold RAs;rfl⟩,fun v hv=>?_⟩;simp at hv;subst hv;exact h2
 cases x with
 | agg l =>
  unfold RA at h;obtain ⟨vs,rfl,h⟩:=h;exact ⟨h,VE h1 h⟩
 | p q =>
  cases q with
  | agg l =>
   unfold RA RP at h;obtain ⟨vs,rfl,h⟩:=h;have h3:RAs w Pub φ (l.map .p) vs:=Qvn h;exact ⟨h3,VE h1 h3⟩
  | _=>exact single _ (by simpa [AV.cs,WZ] using h1) h
 | _=>exact single _ (by simpa [AV.cs,WZ] using h1) h
theorem XE:∀ (vs:List Value),RAs w Pub φ (vs.map fun v=>.p (.v v)) vs
 | []=>by simp only [QxB];unfold RAs;rfl
 | v::vs=>by
  rw [Qxv];unfold RAs;exact ⟨v,vs,rfl,by unfold RA RP;rfl,XE vs⟩
end
def Qcg (vs:List Value):List AV:=vs.map fun v=>.p (.v v)
theorem QsK {T:TypeId} {z:List Value} (r:Nat) (hz:QjM P T=some z) (h1:z.all (·.oneCell')=true) (hf:st.free kp r=true) (hd:Qxo d n=true) :
  Qd P E kp n ops ⟨some d,.alloc T,ty,ps,af,none⟩ st ⟨(d,.own r 0)::st.slots,(r,.box (Qcg z) T)::st.heap⟩:=by
 refine Qd.val rfl fun a w ⟨φ,Pub,I,h0,hn,hs⟩=>?_;obtain ⟨v,hv,hc⟩:=Xt hz w;obtain ⟨f1,f2,f3,f4⟩:=Qu hf
 have I':=I.alloc f1 f2 f4 (.cells z.toArray T) 1 (ob:=.box (Qcg z) T) ⟨w.heap.size,z.toArray,if_pos rfl,heap_alloc_new w _,XE z,fun u hu=>by
  rw [List.all_eq_true] at h1;exact h1 u (by simpa using hu),fun i hp=>by have:=I.publ _ _ hp;omega⟩
 refine ⟨.pointer (some ⟨w.heap.size,0,none⟩),w.alloc (.cells z.toArray T),?_,Sat.put I' h0 hn (fun s=>Qad I (Wf f3) 1 (hs s)) hd (by unfold RA;exact ⟨_,_,if_pos rfl,rfl⟩)⟩;simp only [execOp,Instr.alloc];simp [Sem.run_bind,hv,newVar,newRow,hc,newObj,Sem.run]
theorem Qvo {T:TypeId} {x:Operand} {y:AV} (r:Nat) (hx:Gv (st.ev x) y) (h1:WZ y.cs=true) (hy:YC r y.cs=false) (hf:st.free kp r=true) (hd:Qxo d n=true) :
  Qd P E kp n ops ⟨some d,.box T x,ty,ps,af,none⟩ st ⟨(d,.own r 0)::st.slots,(r,.box y.cs T)::st.heap⟩:=by
 refine Qd.val rfl fun a w ⟨φ,Pub,I,h0,hn,hs⟩=>?_;obtain ⟨f1,f2,f3,f4⟩:=Qu hf;have hxR:=hx _ _ _ _ (Za (h:=st.heap) hs x);obtain ⟨c1,c2⟩:=Qpc h1 hxR;have I':=I.alloc f1 f2 f4 (.cells (a.eval x).cells T) 1 (ob:=.box y.cs T) ⟨w.heap.size,(a.eval x).cells,if_pos rfl,heap_alloc_new w _,Qng I hy 1 c1,c2,fun i hp=>by have:=I.publ _ _ hp;omega⟩;refine ⟨.pointer (some ⟨w.heap.size,0,none⟩),w.alloc (.cells (a.eval x).cells T),?_,Sat.put I' h0 hn (fun s=>Qad I (Wf f3) 1 (hs s)) hd (by unfold RA;exact ⟨_,_,if_pos rfl,rfl⟩)⟩;simp [execOp,Instr.box,newVar,newRow,newObj,Sem.run]
theorem JP {T:TypeId} {s:Nat} (hs:Zh P T=some s) {b off:Nat} {u:Value} {w:World} {cur:Array Value} {t:TypeId} {fr:Nat×Nat} (hb:w.heap[b]? = some (.cells cur t fr)) (hfr:Qhb t cur.size fr)
  (hl:u.cells.toList.length=s) (hin:off+s<=cur.size) (h1:∀ v∈u.cells.toList,v.oneCell'=true) :
  (Instr.storeAt T (.pointer (some ⟨b,off,none⟩)) u).run P w=.ok () (w.setCells b off u.cells.toList):=by
 have hst:=run_storeCells_cells (P:=P) b off u.cells.toList 0 w (fun j hj=>by
  rw [cell_of_row w b _ cur t fr hb,Array.getElem?_eq_getElem (by omega)];rfl) (fun j hj=>by
  unfold World.frozen?;simp only [hb];rcases hfr with h0 | h0
  ·subst h0;simp
  ·have:=h0.1;simp;omega) h1
 simp only [Nat.add_zero] at hst;rw [QxA] at hl;simp [Instr.storeAt,Instr.sureAddr,storeVar,Qp hs,hl,hst]
theorem YQ {T:TypeId} {x y:Operand} {r off s:Nat} {cells:List AV} {t:TypeId} {v:AV} (hx:Gv (st.ev x) (.own r off)) (hy:Gv (st.ev y) v) (hs:Zh P T=some s) (hl:st.ob r=.box cells t)
  (h1:WZ v.cs=true) (hlen:v.cs.length=s) (hin:off+s<=cells.length):Qd P E kp n ops ⟨none,.store T x y,ty,ps,af,none⟩ st (st.set r (.box (Qs cells off v.cs) t)):=by
 refine Qd.skip rfl fun a w ⟨φ,Pub,I,h0,hn,hsl⟩=>?_;have h:=hx _ _ _ _ (Za (h:=st.heap) hsl x);unfold RA at h;obtain ⟨b,c,e0,e⟩:=h;obtain ⟨c1,c2⟩:=Qpc h1 (hy _ _ _ _ (Za (h:=st.heap) hsl y));have k:=I.own r;have hl':look OB.dead st.heap r=.box cells t:=hl;rw [hl'] at k;obtain ⟨b',cur,k1,k2,k3,k4,k5⟩:=k;rw [e0] at k1;cases k1;have hlc:=QU k3;rw [QxA] at hlc;obtain ⟨I',H⟩:=I.storeBox hl' e0 (o:=off) c1 c2;refine ⟨w.setCells b off (a.eval y).cells.toList,?_,φ,Pub,I',h0,hn,fun q=>QF H _ _ (fun _ _=>rfl) (hsl q)⟩;simp only [execOp,e];rw [Sem.run_bind,JP hs k2 (.inl rfl) (by rw [QU c1];exact hlen) (by omega) c2];rfl
theorem JQ {T:TypeId} {x y:Operand} {r off s sz pub:Nat} {cells qs:List PV} {t:TypeId} {v:AV} (hx:Gv (st.ev x) (.own r off)) (hy:Gv (st.ev y) v) (hs:Zh P T=some s) (hl:st.ob r=.row cells t sz pub)
  (h1:WZ v.cs=true) (hq:AV.toPs v.cs=some qs) (hlen:qs.length=s) (hpub:pub<=off) (hin:off+s<=cells.length):Qd P E kp n ops ⟨none,.store T x y,ty,ps,af,none⟩ st (st.set r (.row (Qs cells off qs) t sz pub)):=by
 refine Qd.skip rfl fun a w ⟨φ,Pub,I,h0,hn,hsl⟩=>?_;have h:=hx _ _ _ _ (Za (h:=st.heap) hsl x);unfold RA at h;obtain ⟨b,c,e0,e⟩:=h;obtain ⟨c1,c2⟩:=Qpc h1 (hy _ _ _ _ (Za (h:=st.heap) hsl y));have c1':=QfQ hq c1;have k:=I.own r;have hl':look OB.dead st.heap r=.row cells t sz pub:=hl;rw [hl'] at k;rcases k with ⟨k0,_⟩ | ⟨b',c',cur,fr,k1,⟨k2,k2'⟩,k3,k4,k5,k6,k7,k8⟩
 ·rw [e0] at k0;cases k0
 rw [e0] at k1;cases k1;obtain ⟨I',H⟩:=I.storeRow hl' e0 c1' c2 hpub (by omega);refine ⟨w.setCells b off (a.eval y).cells.toList,?_,φ,Pub,I',h0,hn,fun q=>QF H _ _ (fun _ _=>rfl) (hsl q)⟩;simp only [execOp,e];rw [Sem.run_bind,JP hs k2 k2' (by rw [Wi c1'];exact hlen) (by omega) c2];rfl
section
variable {T:TypeId} {x y:Operand} {r off s:Nat} {cells:List AV} {t:TypeId} (hx:Gv (st.ev x) (.own r off)) (hs:Zh P T=some s) (hl:st.ob r=.box cells t)
include hx hs hl
end
section
variable {T:TypeId} {x:Operand} (r:Nat) (hf:st.free kp r=true) (hd:Qxo d n=true)
include hf hd
end
end
end
section
open Go.RowKit
section
variable {P:Program} {E:Env} {kp:List Nat} {n:Nat} {ops:Array Oper} {st st':AS} {Q:Exit->Act->World->Prop}
def Wk (E:Env) (kp:List Nat) (n:Nat) (st st':AS):Prop:=∀ a w,Sat E kp n st a w->Sat E kp n st' a w
theorem Wk.trans {s1 s2 s3:AS} (h:Wk E kp n s1 s2) (k:Wk E kp n s2 s3):Wk E kp n s1 s3:=fun a w hs=>k a w (h a w hs)
def To (E:Env) (kp:List Nat) (n:Nat) (Q:Exit->Act->World->Prop) (e:Exit) (st:AS):Prop:=∀ a w,Sat E kp n st a w->Q e a w
def AO (P:Program) (E:Env) (kp:List Nat) (n:Nat) (ops:Array Oper) (Q:Exit->Act->World->Prop) (rest:List Oper) (st:AS):Prop:=∀ a w,Sat E kp n st a w->wpList P ops Q rest a w
def AW (P:Program) (E:Env) (kp:List Nat) (n:Nat) (c:Code) (Q:Exit->Act->World->Prop) (st:AS):Prop:=∀ a w,Sat E kp n st a w->c.wp P Q a w
theorem AO.step {o:Oper} {rest:List Oper} (h:Qd P E kp n ops o st st') (k:AO P E kp n ops Q rest st'):AO P E kp n ops Q (o::rest) st :=
 fun a w hs=>wpList_step fun K hK=>h a w K Q hs fun a' w' hs'=>hK _ _ (k a' w' hs')
theorem AO.nil (h:To E kp n Q .normal st):AO P E kp n ops Q [] st:=fun a w hs=>wpList_nil (h a w hs)
theorem AO.wk {rest:List Oper} (h:Wk E kp n st st') (k:AO P E kp n ops Q rest st'):AO P E kp n ops Q rest st:=fun a w hs=>k a w (h a w hs)
theorem AW.wk {c:Code} (h:Wk E kp n st st') (k:AW P E kp n c Q st'):AW P E kp n c Q st:=fun a w hs=>k a w (h a w hs)
theorem To.wk {e:Exit} (h:Wk E kp n st st') (k:To E kp n Q e st'):To E kp n Q e st:=fun a w hs=>k a w (h a w hs)
theorem AW.region {id:Nat} {l:List Oper} (h:AO P E kp n l.toArray Q l st):AW P E kp n (.region id l.toArray false) Q st:=fun a w hs=>wp_region_lit (h a w hs)
theorem AW.seq {x y:Code} (h:AW P E kp n x (Exit.then (y.wp P Q) Q) st):AW P E kp n (.seq x y) Q st:=fun a w hs=>wp_seq (h a w hs)
theorem AW.skip (h:To E kp n Q .normal st):AW P E kp n .skip Q st:=fun a w hs=>wp_skip (h a w hs)
theorem AW.ret (h:To E kp n Q .ret st):AW P E kp n .ret Q st:=fun a w hs=>wp_ret (h a w hs)
theorem AW.exit {id:Nat} (h:To E kp n Q (.exit id) st):AW P E kp n (.exit id) Q st:=fun a w hs=>wp_exit (h a w hs)
theorem AW.block {id:Nat} {c:Code} (h:AW P E kp n c (Exit.inBlock id Q) st):AW P E kp n (.block id c) Q st:=fun a w hs=>wp_block (h a w hs)
theorem AW.cond {c:Operand} {x y:Code} {g:Bool} (hc:Gv (st.ev c) (.p (.v (.bool g)))) (h1:g=true->AW P E kp n x Q st) (h2:g=false->AW P E kp n y Q st):AW P E kp n (.cond c x y) Q st:=by
 intro a w hs;have hs':=hs;obtain ⟨φ,Pub,I,h0,hn,hsl⟩:=hs;have e:=hc.v (Za (h:=st.heap) hsl c);exact wp_cond_split e (fun hg=>h1 hg a w hs') (fun hg=>h2 hg a w hs')
theorem To.seq {y:Code} (h:AW P E kp n y Q st):To E kp n (Exit.then (y.wp P Q) Q) .normal st:=h
theorem To.then_normal {K:Act->World->Prop} (h:To E kp n (fun _=>K) .normal st):To E kp n (Exit.then K Q) .normal st:=h
theorem To.block_exit {id:Nat} (h:To E kp n Q .normal st):To E kp n (Exit.inBlock id Q) (.exit id) st:=fun a w hs=>by
 show (if id=id then Q .normal a w else Q (.exit id) a w);rw [if_pos rfl];exact h a w hs
theorem To.block_exit_ne {id id':Nat} (hne:id'≠id) (h:To E kp n Q (.exit id') st):To E kp n (Exit.inBlock id Q) (.exit id') st:=fun a w hs=>by
 show (if id'=id then Q .normal a w else Q (.exit id') a w);rw [if_neg hne];exact h a w hs
theorem AW.loop {α:Type} {c:Code} (I:α->AS) (ok:α->Prop) (μ:α->Nat) (x0:α) (h0:ok x0) (hst:Wk E kp n st (I x0))
  (round:∀ x,ok x -> ∀ K:Act->World->Prop,(∀ y,ok y->μ y < μ x->To E kp n (fun _=>K) .normal (I y))->AW P E kp n c (Exit.then K Q) (I x)):AW P E kp n (.loop c) Q st:=by
 intro a w hs;refine wp_loop_ghost (fun m a w=>∃ x,μ x=m/\ok x/\Sat E kp n (I x) a w) (μ x0) ⟨x0,rfl,h0,hst a w hs⟩ ?_;rintro m a w ⟨x,rfl,hx,hsx⟩;exact round x hx _ (fun y hy hlt a' w' hs'=>⟨μ y,hlt,y,rfl,hy,hs'⟩) a w hsx
def Ev (P:Program) (f:FuncId) (hin:List (Nat×OB)) (args:List AV) (hout:List (Nat×OB)) (res:AV):Prop :=
 ∀ (E:Env) (φ:Qi) (Pub:Nat->Nat->Prop) (w:World) (vs:List Value),E.w0=w->E.φ0=φ->Inv E (hin.map (·.1)) φ Pub hin w->RAs w Pub φ args vs ->
  Calls P f vs.toArray w fun e w'=>∃ v φ' Pub',e=.returned v/\Inv E (hin.map (·.1)) φ' Pub' hout w'/\RA w' Pub' φ' res v
def Va:Nat->List AV->List (Nat×AV)
 | _,[]=>[]
 | i,x::xs=>(i,x)::Va (i+1) xs
theorem QeS {w:World} {Pub:Nat->Nat->Prop} {φ:Qi}:∀ {l:List AV} {vs:List Value} (i:Nat) (A:Array Value),RAs w Pub φ l vs->(∀ j u,vs[j]? = some u->A[i+j]? = some u) -> ∀ s,RA w Pub φ (look .any (Va i l) s) (A.getD s undef)
 | [],vs,i,A,_,_,s=>by simp [Va,look,RA]
 | x::xs,vs,i,A,h,hA,s=>by
  unfold RAs at h;obtain ⟨u,us,rfl,h1,h2⟩:=h;simp only [Va,Qb];by_cases e:i=s
  ·subst e;rw [if_pos rfl];have:=hA 0 u rfl;rw [Nat.add_zero] at this;rw [Qxp,this];exact h1
  ·rw [if_neg e];exact QeS (i+1) A h2 (fun j v hj=>by have:=hA (j+1) v (by simpa using hj);rwa [show i+(j+1)=i+1+j from by omega] at this) s
def QeT (tmps:Array Value):ResultVar->Sem Value
 | .tmp t=>pure (tmps.getD t undef)
 | .cell a t=>do loadVar t (<- asAddr (tmps.getD a undef))
theorem QjW (fn:Func) (tmps:Array Value):results fn tmps=(do let vs <- fn.results.mapM (QeT tmps);pure (if h:vs.size=1 then vs[0] else .tuple vs)):=by
 unfold results;congr 1
def Qhj (P:Program) (st:AS) (rv:ResultVar) (x:AV):Prop :=
 ∀ (E:Env) (kp:List Nat) (a:Act) (w:World) (φ:Qi) (Pub:Nat->Nat->Prop),Inv E kp φ Pub st.heap w->(∀ s,RA w Pub φ (look .any st.slots s) (a.tmps.getD s undef)) ->
  ∃ v,(QeT a.tmps rv).run P w=.ok v w/\RA w Pub φ x v
theorem Qhj.tmp {t:Nat} {x:AV} (h:Gv (look .any st.slots t) x):Qhj P st (.tmp t) x:=fun E kp a w φ Pub I hs=>⟨_,rfl,h _ _ _ _ (hs t)⟩
theorem QcX {T:TypeId} {ad:Addr} {w:World} {v:Value} (h:(Instr.loadAt T (.pointer (some ad))).run P w=.ok v w):(do loadVar T (<- asAddr (.pointer (some ad))):Sem Value).run P w=.ok v w:=by
 simpa [Instr.loadAt,Instr.sureAddr,asAddr] using h
theorem Qhj.box1 {c r off:Nat} {T t:TypeId} {cells:List AV} {x y:AV} (hc:Gv (look .any st.slots c) (.own r off)) (hT:Q4 P T=some false) (hl:st.ob r=.box cells t) (hv:cells[off]? = some x) (hy:Gv x y):Qhj P st (.cell c T) y:=by
 intro E kp a w φ Pub I hs;have h:=hc _ _ _ _ (hs c);unfold RA at h;obtain ⟨b,cc,e0,e⟩:=h;obtain ⟨cur,c1,c2,_⟩:=YD I hl e0;obtain ⟨u,hu,hRv⟩:=X7 c2 hv;refine ⟨u,?_,hy _ _ _ _ hRv⟩;simp only [QeT,e];exact QcX (XC hT (by rw [cell_of_row w b off cur t (0,0) c1];simpa using hu))
theorem Qhj.boxN {c r off s:Nat} {T t:TypeId} {cells:List AV} {l:List AV} {y:AV} (hc:Gv (look .any st.slots c) (.own r off)) (hT:Q4 P T=some true) (hs':Zh P T=some s) (hl:st.ob r=.box cells t) (hv:(cells.drop off).take s=l) (hlen:l.length=s)
  (hy:Gv (.agg l) y):Qhj P st (.cell c T) y:=by
 intro E kp a w φ Pub I hs;have h:=hc _ _ _ _ (hs c);unfold RA at h;obtain ⟨b,cc,e0,e⟩:=h;obtain ⟨cur,c1,c2,_⟩:=YD I hl e0;have c3:=VD s (VC off c2);rw [hv] at c3;refine ⟨_,?_,hy _ _ _ _ (by unfold RA;exact ⟨_,rfl,c3⟩)⟩;simp only [QeT,e]
 exact QcX (XD hT hs' (by rw [QU c3];exact hlen) (fun j v hj=>by
   rw [cell_of_row w b _ cur t (0,0) c1];rw [Qxu] at hj;split at hj
   ·rw [Qxx] at hj;simpa using hj
   ·cases hj))
def subH (h h':List (Nat×OB)):Prop:=∀ r,look OB.dead h' r=look OB.dead h r\/look OB.dead h' r=.dead
theorem Inv.sub {φ:Qi} {Pub:Nat->Nat->Prop} {h h':List (Nat×OB)} {w:World} (I:Inv E kp φ Pub h w) (hs:subH h h'):Inv E kp φ Pub h' w:=by
 have hal:∀ q,(look OB.dead h' q).alive=true->look OB.dead h' q=look OB.dead h q/\(look OB.dead h q).alive=true:=fun q hq=>by
  rcases hs q with e | e
  ·exact ⟨e,by rw [<- e];exact hq⟩
  ·rw [e] at hq;cases hq
 exact I.next rfl rfl rfl (Nat.le_refl _) (fun _ _ _=>rfl) (Adv.refl _ _) (fun _ _ hp=>.inl hp) I.publ (fun q hq=>by rw [(hal q hq).1];exact I.own q)
  (fun q b c hq=>I.mine q b c (hal q hq).2) (fun q q' b c c' hq hq'=>I.inj q q' b c c' (hal q hq).2 (hal q' hq').2) (fun _ _=>rfl)
def QfS (E:Env) (kp:List Nat) (hout:List (Nat×OB)) (res:AV) (e:Ending) (w':World):Prop:=∃ v φ' Pub',e=.returned v/\Inv E kp φ' Pub' hout w'/\RA w' Pub' φ' res v
theorem Ev.intro {f:FuncId} {fn:Func} {c:Code} {hin hout:List (Nat×OB)} {args:List AV} {res:AV} (hf:P.funcs[f]? = some fn) (hb:fn.body=some c) {m:Nat} (hm:fn.ntmps=m) (hk:args.length<=m)
  (h:∀ E:Env,AW P E (hin.map (·.1)) m c (bodyPost P fn (QfS E (hin.map (·.1)) hout res)) ⟨Va 0 args,hin⟩):Ev P f hin args hout res:=by
 intro E φ Pub w vs hw hφ I hR;subst hm;refine calls_of_wp hf hb (h E _ w ⟨φ,Pub,I,rfl,?_,?_⟩)
 ·have:=QU hR
  simp;omega
 ·refine QeS 0 _ hR (fun j u hj=>?_);have hlt:=(Qxt.1 hj).1;rw [Nat.zero_add,Array.getElem?_append_left (by simpa using hlt)];simpa using hj
theorem To.ret_normal {fn:Func} {R:Ending->World->Prop} (h:To E kp n (bodyPost P fn R) .ret st):To E kp n (bodyPost P fn R) .normal st:=h
def QX (P:Program) (f:FuncId):Bool :=
 match P.funcs[f]? with
 | some fn=>fn.body.isSome && !(fn.name == "runtime.NumGoroutine")
 | none=>false
theorem Qag {f:FuncId} (hc:QX P f=true) (args:Array Value) (w:World):(callFunc f args).run P w=.ok (.enter f args) w:=by
 unfold QX at hc
 cases hf:P.funcs[f]? with
 | none=>rw [hf] at hc;cases hc
 | some fn =>
  rw [hf] at hc;simp only [Qxz,Bool.not_eq_true'] at hc;obtain ⟨h1,h2⟩:=hc;have h3:fn.body.isNone=false:=by cases hb:fn.body <;> simp_all
  have h4:¬ fn.name = "runtime.NumGoroutine" := fun e=>by rw [e] at h2;simp at h2
  have h5:¬ fn.body=none:=fun e=>by rw [e] at h1;cases h1
  simp [callFunc,program,Sem.run,hf,h4,h5]
theorem Qvp {w:World} {Pub:Nat->Nat->Prop} {φ:Qi} {a:Act} (hs:∀ s,RA w Pub φ (look .any st.slots s) (a.tmps.getD s undef)):∀ (l:List Operand),RAs w Pub φ (l.map st.ev) (l.map a.eval)
 | []=>by simp only [QxB];unfold RAs;rfl
 | x::xs=>by
  rw [Qxv,Qxv];unfold RAs;exact ⟨_,_,rfl,Za (h:=st.heap) hs x,Qvp hs xs⟩
def Yi (st:AS) (kp:List Nat):List (Nat×OB)->Bool
 | []=>true
 | (r,_)::h=>st.free kp r && Yi st kp h
mutual
def AV.inH (h:List (Nat×OB)):AV->Bool
 | .p _=>true
 | .agg l=>Qnk h l
 | .tup l=>Qnk h l
 | .own q _=>(look OB.dead h q).alive
 | .osl q _=>(look OB.dead h q).alive
 | .mref q=>(look OB.dead h q).alive
 | .oss q _ _ _=>(look OB.dead h q).alive
 | .cnd _ x=>AV.inH h x
 | .any=>true
def Qnk (h:List (Nat×OB)):List AV->Bool
 | []=>true
 | x::xs=>AV.inH h x && Qnk h xs
end
mutual
theorem QlG {h:List (Nat×OB)} {r:Nat}:∀ (x:AV),x.inH h=true->x.has r=true->(look OB.dead h r).alive=true
 | .p _,_,hr=>by unfold AV.has at hr;cases hr
 | .agg l,hi,hr=>by unfold AV.has at hr;unfold AV.inH at hi;exact Qah l hi hr
 | .tup l,hi,hr=>by unfold AV.has at hr;unfold AV.inH at hi;exact Qah l hi hr
 | .own q _,hi,hr=>by unfold AV.has at hr;unfold AV.inH at hi;rw [<- Qxs hr];exact hi
 | .osl q _,hi,hr=>by unfold AV.has at hr;unfold AV.inH at hi;rw [<- Qxs hr];exact hi
 | .mref q,hi,hr=>by unfold AV.has at hr;unfold AV.inH at hi;rw [<- Qxs hr];exact hi
 | .oss q _ _ _,hi,hr=>by unfold AV.has at hr;unfold AV.inH at hi;rw [<- Qxs hr];exact hi
 | .cnd _ x,hi,hr=>by unfold AV.has at hr;unfold AV.inH at hi;exact QlG x hi hr
 | .any,_,hr=>by unfold AV.has at hr;cases hr
theorem Qah {h:List (Nat×OB)} {r:Nat}:∀ (l:List AV),Qnk h l=true->YC r l=true->(look OB.dead h r).alive=true
 | [],_,hr=>by unfold YC at hr;cases hr
 | x::xs,hi,hr=>by
  unfold YC at hr;unfold Qnk at hi;simp only [Bool.or_eq_true,Qxz] at hr hi;rcases hr with hr | hr
  ·exact QlG x hi.1 hr
  ·exact Qah xs hi.2 hr
end
def WH (h:List (Nat×OB)):List (Nat×OB)->Bool
 | []=>true
 | (_,.box cells _)::r=>Qnk h cells && WH h r
 | (_,.row ..)::r=>WH h r
 | (_,.obj _)::r=>WH h r
 | (_,.it m _ _ _)::r=>(look OB.dead h m).alive && WH h r
 | (_,.ra _ _ _ ns)::r=>(ns.all fun q=>(look OB.dead h q).alive) && WH h r
 | (_,.dead)::_=>false
end
end
end Go.Proofs.YtcebndkiagbddaaGreatDoor
