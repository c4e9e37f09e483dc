/- A part of the proof: contracts of functions and what they stand on. Written shorter and merged by a program (pack.py). -/
import Derived.Test.YtcebndkiagbddaaGreatDoorK1
set_option linter.unusedVariables false
set_option linter.unusedSimpArgs false
set_option maxRecDepth 100000
set_option maxHeartbeats 4000000
open Nat renaming blt → Qy3, eq_of_beq_eq_true → Qy7
open Array renaming getD_eq_getD_getElem? → Qy4, length_toList → Qzf
open BitVec renaming ofInt → Qy5
open Option renaming map_some → Qy6, some → Qzb, bind_some → Qzd
open List renaming getElem?_eq_some_iff → Qy8, getElem?_take → Qy9, map_cons → Qza, getElem?_drop → Qzc, map_nil → Qzg
open Bool renaming and_eq_true → Qze
namespace Go.Proofs.YtcebndkiagbddaaGreatDoor
section
open Go.RowKit
def WB (P:Program) (T:TypeId):Option Bool:=(P.underlying T).map fun d=>d.isRow
def Z1 (P:Program) (T:TypeId):Option Nat:=(P.info? T).map (·.size)
def Qms (P:Program) (T:TypeId):Option (List Value):=((P.info? T).bind (·.zero)).map fun z=>z.cells.toList
def Qdh (P:Program) (T:TypeId):Option (List (Nat×Nat)) :=
 match P.underlying T with
 | some (.struct fs)=>fs.toList.mapM fun f=>(P.info? f.type).map fun i=>(f.offset,i.size)
 | _=>none
def Qj4 (P:Program) (T:TypeId):Option (Nat×Nat) :=
 match P.underlying T with
 | some (.array n e)=>(P.info? e).map fun i=>(n,i.size)
 | _=>none
def Jz (P:Program) (T:TypeId):Option (TypeId×Nat) :=
 match P.underlying T with
 | some (.slice e)=>(P.info? e).map fun i=>(e,i.size)
 | _=>none
section
variable {P:Program} {E:Env} {kp:List Nat} {n:Nat} {ops:Array Oper} {st st':AS}
def Qf (P:Program) (E:Env) (kp:List Nat) (n:Nat) (ops:Array Oper) (o:Oper) (st st':AS):Prop :=
 ∀ (a:Act) (w:World) (K:Act→World→Prop) (Q:Exit→Act→World→Prop),Sat E kp n st a w→(∀ a' w',Sat E kp n st' a' w'→K a' w') →
  if Region.wanted o (yielded ops a.tmps)=true then o.wp P a w K Q else K (a.put o.dst undef) w
theorem Qf.val {o:Oper} (hg:o.guard=none) (h:∀ a w,Sat E kp n st a w→∃ u w',(execOp a.eval o).run P w=.ok (.value u) w'∧Sat E kp n st' (a.put o.dst u) w'):Qf P E kp n ops o st st':=by
 intro a w K Q hs hK;obtain ⟨u,w',hr,hs'⟩:=h a w hs;rw [if_pos (by simp [Region.wanted,hg])];unfold Oper.wp;rw [hr];exact hK _ _ hs'
theorem Qf.skip {o:Oper} (hg:o.guard=none) (h:∀ a w,Sat E kp n st a w→∃ w',(execOp a.eval o).run P w=.ok .skip w'∧Sat E kp n st' (a.put o.dst undef) w'):Qf P E kp n ops o st st':=by
 intro a w K Q hs hK;obtain ⟨w',hr,hs'⟩:=h a w hs;rw [if_pos (by simp [Region.wanted,hg])];unfold Oper.wp;rw [hr];exact hK _ _ hs'
section
variable {φ:Qt} {Pub:Nat→Nat→Prop} {w:World} {h:List (Nat×OB)} {sl:List (Nat×AV)} {a:Act}
theorem Sat.put (I:Inv E kp φ Pub h w) (h0:a.defers=[]) (hn:a.tmps.size=n) (hs:∀ s,RA w Pub φ (look .any sl s) (a.tmps.getD s undef)) {d:Nat} (hd:Qy3 d n=true) {x:AV} {u:Value} (hx:RA w Pub φ x u) :
  Sat E kp n ⟨(d,x)::sl,h⟩ (a.put (some d) u) w:=by
 have hd:d < n:=by rw [Nat.blt_eq] at hd;exact hd
 refine ⟨φ,Pub,I,h0,by simpa [Act.put] using hn,fun s=>?_⟩;rw [Qb];simp only [Act.put,Qy4,Array.getElem?_setIfInBounds];by_cases e:d=s
 ·subst e;rw [if_pos rfl,if_pos rfl,if_pos (by omega)];exact hx
 ·rw [if_neg e,if_neg e,← Qy4];exact hs s
theorem ZW (hs:∀ s,RA w Pub φ (look .any sl s) (a.tmps.getD s undef)) (x:Operand):RA w Pub φ (AS.ev ⟨sl,h⟩ x) (a.eval x):=by
 cases x with
 | tmp t=>exact hs t
 | const c=>show RA w Pub φ (.p (.v c)) c;simp [RA,RP]
 | func f=>show RA w Pub φ (.p (.v _)) _;simp [RA,RP,Act.eval]
 | global g=>show RA w Pub φ .any _;simp [RA]
end
def Gv (x y:AV):Prop:=∀ w Pub φ u,RA w Pub φ x u→RA w Pub φ y u
theorem Gv.r {x:AV}:Gv x x:=fun _ _ _ _ h=>h
theorem Gv.c {g:Bool} {x y:AV} (hg:g=true) (h:Gv x y):Gv (.cnd g x) y:=fun w Pub φ u k=>h w Pub φ u (by unfold RA at k;exact k.1 hg)
theorem Gv.v {x:AV} {v:Value} (h:Gv x (.p (.v v))) {w Pub φ u} (k:RA w Pub φ x u):u=v:=by
 have:=h w Pub φ u k;unfold RA RP at this;exact this
theorem Gv.p_ {x:AV} {q:PV} (h:Gv x (.p q)) {w Pub φ u} (k:RA w Pub φ x u):RP w Pub q u:=by
 have:=h w Pub φ u k;unfold RA at this;exact this
theorem Gv.agg {l:List PV}:Gv (.agg (l.map .p)) (.p (.agg l)):=fun w Pub φ u k=>by
 unfold RA at k ⊢;unfold RP;obtain ⟨vs,e,h⟩:=k;refine ⟨vs,e,?_⟩;clear e
 induction l generalizing vs with
 | nil=>unfold RAs at h;unfold RPs;exact h
 | cons x l ih =>
  rw [Qza] at h;unfold RAs at h;unfold RPs;obtain ⟨u,us,e,h1,h2⟩:=h;exact ⟨u,us,e,by unfold RA at h1;exact h1,ih us h2⟩
theorem QG {o:Oper} {d:Nat} (x:AV) (hg:o.guard=none) (ho:o.dst=some d) (hd:Qy3 d n=true)
  (h:∀ (a:Act) (w:World) (φ:Qt) (Pub:Nat→Nat→Prop),Inv E kp φ Pub st.heap w→(∀ y,RA w Pub φ (st.ev y) (a.eval y))→∃ u,(execOp a.eval o).run P w=.ok (.value u) w∧RA w Pub φ x u) :
  Qf P E kp n ops o st (st.put d x):=by
 refine Qf.val hg fun a w ⟨φ,Pub,I,h0,hn,hs⟩=>?_;obtain ⟨u,hr,hx⟩:=h a w φ Pub I (ZW hs);exact ⟨u,w,hr,by rw [ho];exact Sat.put I h0 hn hs hd hx⟩
variable {d:Nat} {ty:TypeId} {ps:String} {af:Array Edge}
section
variable {x:Operand} {o:Op} (ho:o=.move x∨o=.assign x) (hd:Qy3 d n=true)
include ho hd
theorem QpL {y:AV} (hx:Gv (st.ev x) y):Qf P E kp n ops ⟨some d,o,ty,ps,af,none⟩ st (st.put d y):=by
 rcases ho with rfl | rfl
 ·exact QG _ rfl rfl hd fun a w φ Pub I hs=>⟨_,rfl,hx _ _ _ _ (hs x)⟩
 ·exact QG _ rfl rfl hd fun a w φ Pub I hs=>⟨_,rfl,hx _ _ _ _ (hs x)⟩
end
theorem Qfd {a b:Bool} (h:a=true) (k:b=true):(a && b)=true:=by rw [h,k];rfl
theorem ZL {q:Bool} (h:q=true):(q == true)=true:=by rw [h];rfl
theorem X6 {q:Bool} (h:q=false):(q == false)=true:=by rw [h];rfl
theorem S_and {c x y:Operand} {g q:Bool} (hc:Gv (st.ev c) (.p (.v (.bool g)))) (hy:Gv (st.ev y) (.p (.v (.bool false)))) (hx:g=true→Gv (st.ev x) (.p (.v (.bool q)))) (hd:Qy3 d n=true) :
  Qf P E kp n ops ⟨some d,.pick c x y,ty,ps,af,none⟩ st (st.put d (.p (.v (.bool (g && q))))) :=
 QG _ rfl rfl hd fun a w φ Pub I hs=>by
  have e1:=hc.v (hs c)
  cases g with
  | true =>
   have e2:=(hx rfl).v (hs x);refine ⟨.bool q,?_,by simp [RA,RP]⟩;simp [execOp,e1,e2,asBool]
  | false =>
   have e2:=hy.v (hs y);refine ⟨.bool false,?_,by simp [RA,RP]⟩;simp [execOp,e1,e2,asBool]
theorem S_or {c x y:Operand} {g q:Bool} (hc:Gv (st.ev c) (.p (.v (.bool g)))) (hy:Gv (st.ev y) (.p (.v (.bool true)))) (hx:g=false→Gv (st.ev x) (.p (.v (.bool q)))) (hd:Qy3 d n=true) :
  Qf P E kp n ops ⟨some d,.pick c y x,ty,ps,af,none⟩ st (st.put d (.p (.v (.bool (g || q))))) :=
 QG _ rfl rfl hd fun a w φ Pub I hs=>by
  have e1:=hc.v (hs c)
  cases g with
  | false =>
   have e2:=(hx rfl).v (hs x);refine ⟨.bool q,?_,by simp [RA,RP]⟩;simp [execOp,e1,e2,asBool]
  | true =>
   have e2:=hy.v (hs y);refine ⟨.bool true,?_,by simp [RA,RP]⟩;simp [execOp,e1,e2,asBool]
theorem S_not {x:Operand} {T:TypeId} {g:Bool} (hx:Gv (st.ev x) (.p (.v (.bool g)))) (hd:Qy3 d n=true) :
  Qf P E kp n ops ⟨some d,.unOp .not T x,ty,ps,af,none⟩ st (st.put d (.p (.v (.bool (!g))))) :=
 QG _ rfl rfl hd fun a w φ Pub I hs=>by
  have e1:=hx.v (hs x);exact ⟨.bool (!g),by simp [execOp,e1,Op.unary],by simp [RA,RP]⟩
theorem QuU {o:Op} {j gs:Nat} {want g:Bool} {x:AV} (hj:(ops[j]?).bind (·.dst)=some gs) (hgs:st.ev (.tmp gs)=.p (.v (.bool g))) (hd:Qy3 d n=true)
  (h:(g == want)=true→Qf P E kp n ops ⟨some d,o,ty,ps,af,none⟩ st (st.put d x)):Qf P E kp n ops ⟨some d,o,ty,ps,af,some (j,want)⟩ st (st.put d (.cnd (g == want) x)):=by
 intro a w K Q hs hK;obtain ⟨φ,Pub,I,h0,hn,hsl⟩:=hs;have e0:=ZW (h:=st.heap) hsl (.tmp gs)
 have e1:a.tmps.getD gs undef=.bool g:=by
  have:RA w Pub φ (.p (.v (.bool g))) (a.eval (.tmp gs)):=by rw [← hgs];exact e0
  unfold RA RP at this;exact this
 have hy:yielded ops a.tmps j=some g:=by
  unfold yielded;rw [hj];simp only [Qzd];rw [Qy4] at e1
  cases hq:a.tmps[gs]? with
  | none=>rw [hq] at e1;simp [undef] at e1
  | some v=>rw [hq] at e1;simp at e1;rw [e1]
 have hw:Region.wanted ⟨some d,o,ty,ps,af,some (j,want)⟩ (yielded ops a.tmps)=(g == want):=by
  simp only [Region.wanted,hy];cases g <;> cases want <;> rfl
 rw [hw];by_cases hgw:(g == want)=true
 ·rw [if_pos hgw]
  have:=h hgw a w K Q ⟨φ,Pub,I,h0,hn,hsl⟩ (fun a' w' hs'=>hK a' w' (by
   obtain ⟨φ',Pub',I',h0',hn',hsl'⟩:=hs';refine ⟨φ',Pub',I',h0',hn',fun s=>?_⟩;have k:=hsl' s;simp only [AS.put,Qb] at k ⊢;split
   ·next e=>rw [if_pos e] at k;unfold RA;exact ⟨fun _=>k,fun hf=>by rw [hgw] at hf;cases hf⟩
   ·next e=>rw [if_neg e] at k;exact k))
  rw [if_pos (by rfl)] at this;exact this
 ·rw [if_neg hgw];refine hK _ _ (Sat.put I h0 hn hsl hd ?_);unfold RA;exact ⟨fun hh=>absurd hh hgw,fun _=>rfl⟩
theorem QrM {o:Op} {j gs:Nat} {want g q:Bool} {x:AV} (hj:(ops[j]?).bind (·.dst)=some gs) (hgs:st.ev (.tmp gs)=.cnd g (.p (.v (.bool q)))) (hd:Qy3 d n=true)
  (h:(g && (q == want))=true→Qf P E kp n ops ⟨some d,o,ty,ps,af,none⟩ st (st.put d x)):Qf P E kp n ops ⟨some d,o,ty,ps,af,some (j,want)⟩ st (st.put d (.cnd (g && (q == want)) x)):=by
 intro a w K Q hs hK;obtain ⟨φ,Pub,I,h0,hn,hsl⟩:=hs;have e0:=ZW (h:=st.heap) hsl (.tmp gs)
 have e1:(g=true→a.tmps.getD gs undef=.bool q)∧(g=false→a.tmps.getD gs undef=undef):=by
  have:RA w Pub φ (.cnd g (.p (.v (.bool q)))) (a.eval (.tmp gs)):=by rw [← hgs];exact e0
  unfold RA at this;exact ⟨fun hg=>by have:=this.1 hg;unfold RA RP at this;exact this,this.2⟩
 have hw:Region.wanted ⟨some d,o,ty,ps,af,some (j,want)⟩ (yielded ops a.tmps)=(g && (q == want)):=by
  simp only [Region.wanted,yielded,hj,Qzd];rw [Qy4] at e1
  cases g with
  | true =>
   have e2:=e1.1 rfl
   cases hq:a.tmps[gs]? with
   | none=>rw [hq] at e2;simp [undef] at e2
   | some v=>rw [hq] at e2;simp at e2;subst e2;cases q <;> cases want <;> rfl
  | false =>
   have e2:=e1.2 rfl
   cases hq:a.tmps[gs]? with
   | none=>rfl
   | some v=>rw [hq] at e2;simp at e2;subst e2;rfl
 rw [hw];by_cases hgw:(g && (q == want))=true
 ·rw [if_pos hgw]
  have:=h hgw a w K Q ⟨φ,Pub,I,h0,hn,hsl⟩ (fun a' w' hs'=>hK a' w' (by
   obtain ⟨φ',Pub',I',h0',hn',hsl'⟩:=hs';refine ⟨φ',Pub',I',h0',hn',fun s=>?_⟩;have k:=hsl' s;simp only [AS.put,Qb] at k ⊢;split
   ·next e=>rw [if_pos e] at k;unfold RA;exact ⟨fun _=>k,fun hf=>by rw [hgw] at hf;cases hf⟩
   ·next e=>rw [if_neg e] at k;exact k))
  rw [if_pos (by rfl)] at this;exact this
 ·rw [if_neg hgw];refine hK _ _ (Sat.put I h0 hn hsl hd ?_);unfold RA;exact ⟨fun hh=>absurd hh hgw,fun _=>rfl⟩
theorem Yd {op:BinOp} {T T':TypeId} {x y:Operand} {u v r:Value} (hx:Gv (st.ev x) (.p (.v u))) (hy:Gv (st.ev y) (.p (.v v))) (hd:Qy3 d n=true)
  (hr:∀ w,Sem.run P (do eqGuard op T x y u v;binOp op T u v) w=.ok r w):Qf P E kp n ops ⟨some d,.binOp op T x y T',ty,ps,af,none⟩ st (st.put d (.p (.v r))) :=
 QG _ rfl rfl hd fun a w φ Pub I hs=>by
  have e1:=hx.v (hs x);have e2:=hy.v (hs y);have h:=hr w;refine ⟨r,?_,by simp [RA,RP]⟩;simp only [execOp,e1,e2];rw [Sem.run_bind,h];rfl
section
variable {T T':TypeId} {x y:Operand} {k:IntKind} {i j:Int} (hx:Gv (st.ev x) (.p (.v (.int k i)))) (hy:Gv (st.ev y) (.p (.v (.int k j)))) (hd:Qy3 d n=true)
include hx hy hd
theorem S_lt:Qf P E kp n ops ⟨some d,.binOp .lss T x y T',ty,ps,af,none⟩ st (st.put d (.p (.v (.bool (decide (i < j)))))):=Yd hx hy hd fun w=>by simp [eqGuard,binOp,Op.intCmp]
theorem S_le:Qf P E kp n ops ⟨some d,.binOp .leq T x y T',ty,ps,af,none⟩ st (st.put d (.p (.v (.bool (decide (i≤j)))))):=Yd hx hy hd fun w=>by simp [eqGuard,binOp,Op.intCmp]
theorem S_gt:Qf P E kp n ops ⟨some d,.binOp .gtr T x y T',ty,ps,af,none⟩ st (st.put d (.p (.v (.bool (decide (j < i)))))):=Yd hx hy hd fun w=>by simp [eqGuard,binOp,Op.intCmp]
theorem S_ge:Qf P E kp n ops ⟨some d,.binOp .geq T x y T',ty,ps,af,none⟩ st (st.put d (.p (.v (.bool (decide (j≤i)))))):=Yd hx hy hd fun w=>by simp [eqGuard,binOp,Op.intCmp]
theorem S_eq:Qf P E kp n ops ⟨some d,.binOp .eql T x y T',ty,ps,af,none⟩ st (st.put d (.p (.v (.bool (decide (i=j)))))):=Yd hx hy hd fun w=>by simp [eqGuard,binOp,Op.intCmp];rfl
theorem S_ne:Qf P E kp n ops ⟨some d,.binOp .neq T x y T',ty,ps,af,none⟩ st (st.put d (.p (.v (.bool (!decide (i=j)))))):=Yd hx hy hd fun w=>by simp [eqGuard,binOp,Op.intCmp];rfl
theorem Qmt {r:Int} (hr:k.wrap (i+j)=r):Qf P E kp n ops ⟨some d,.binOp .add T x y T',ty,ps,af,none⟩ st (st.put d (.p (.v (.int k r)))):=Yd hx hy hd fun w=>by simp [eqGuard,binOp,Op.intArith,hr]
theorem Qmu {r:Int} (hr:k.wrap (i - j)=r):Qf P E kp n ops ⟨some d,.binOp .sub T x y T',ty,ps,af,none⟩ st (st.put d (.p (.v (.int k r)))):=Yd hx hy hd fun w=>by simp [eqGuard,binOp,Op.intArith,hr]
theorem QxH {r:Int} (hr:k.wrap (i * j)=r):Qf P E kp n ops ⟨some d,.binOp .mul T x y T',ty,ps,af,none⟩ st (st.put d (.p (.v (.int k r)))):=Yd hx hy hd fun w=>by simp [eqGuard,binOp,Op.intArith,hr]
theorem QxI {r:Int} (h0:j≠0) (hr:k.wrap (i.tdiv j)=r):Qf P E kp n ops ⟨some d,.binOp .quo T x y T',ty,ps,af,none⟩ st (st.put d (.p (.v (.int k r)))):=Yd hx hy hd fun w=>by simp [eqGuard,binOp,Op.intDiv,h0,hr]
theorem QxJ {r:Int} (h0:j≠0) (hr:i.tmod j=r):Qf P E kp n ops ⟨some d,.binOp .rem T x y T',ty,ps,af,none⟩ st (st.put d (.p (.v (.int k r)))):=Yd hx hy hd fun w=>by simp [eqGuard,binOp,Op.intDiv,h0,hr]
theorem Qmv {r:Int} (hr:k.wrap ((Qy5 k.bits i &&& Qy5 k.bits j).toNat:Int)=r):Qf P E kp n ops ⟨some d,.binOp .and T x y T',ty,ps,af,none⟩ st (st.put d (.p (.v (.int k r)))):=Yd hx hy hd fun w=>by simp only [eqGuard,binOp,Op.intBits,hr];simp
theorem QrN {r:Int} (hr:k.wrap ((Qy5 k.bits i ||| Qy5 k.bits j).toNat:Int)=r):Qf P E kp n ops ⟨some d,.binOp .or T x y T',ty,ps,af,none⟩ st (st.put d (.p (.v (.int k r)))):=Yd hx hy hd fun w=>by simp only [eqGuard,binOp,Op.intBits,hr];simp
theorem Qmw {r:Int} (hr:k.wrap ((Qy5 k.bits i ^^^ Qy5 k.bits j).toNat:Int)=r):Qf P E kp n ops ⟨some d,.binOp .xor T x y T',ty,ps,af,none⟩ st (st.put d (.p (.v (.int k r)))):=Yd hx hy hd fun w=>by simp only [eqGuard,binOp,Op.intBits,hr];simp
theorem QpM {r:Int} (hr:k.wrap ((Qy5 k.bits i &&& ~~~ Qy5 k.bits j).toNat:Int)=r):Qf P E kp n ops ⟨some d,.binOp .andNot T x y T',ty,ps,af,none⟩ st (st.put d (.p (.v (.int k r)))):=Yd hx hy hd fun w=>by simp only [eqGuard,binOp,Op.intBits,hr];simp
end
theorem Qmx {T T':TypeId} {x y:Operand} {k k':IntKind} {i j q:Int} (hx:Gv (st.ev x) (.p (.v (.int k i)))) (hy:Gv (st.ev y) (.p (.v (.int k' j)))) (hd:Qy3 d n=true) (h0:decide (j < 0)=false) (hq:(2:Int) ^ (min j.toNat k.bits)=q):Qf P E kp n ops ⟨some d,.binOp .shr T x y T',ty,ps,af,none⟩ st (st.put d (.p (.v (.int k (i / q))))):=Yd hx hy hd fun w=>by
 have h0:=of_decide_eq_false h0
 have e:i.fdiv (2 ^ (min j.toNat k.bits))=i / q:=by
  rw [hq,Int.fdiv_eq_ediv_of_nonneg];rw [← hq];exact Int.le_of_lt (Int.pow_pos (by decide))
 simp [eqGuard,binOp,Op.shift,h0,e]
theorem Qmy {T T':TypeId} {x y:Operand} {k k':IntKind} {i j q r:Int} (hx:Gv (st.ev x) (.p (.v (.int k i)))) (hy:Gv (st.ev y) (.p (.v (.int k' j)))) (hd:Qy3 d n=true) (h0:decide (j < 0)=false) (hq:(2:Int) ^ (min j.toNat k.bits)=q) (hr:k.wrap (i * q)=r):Qf P E kp n ops ⟨some d,.binOp .shl T x y T',ty,ps,af,none⟩ st (st.put d (.p (.v (.int k r)))):=Yd hx hy hd fun w=>by
 have h0:=of_decide_eq_false h0;simp [eqGuard,binOp,Op.shift,h0,hq,hr]
end
end
section
open Go.RowKit
section
variable {P:Program} {E:Env} {kp:List Nat} {n:Nat} {ops:Array Oper} {st st':AS} {d:Nat} {ty:TypeId} {ps:String} {af:Array Edge}
theorem Y8 {T:TypeId} {g:Bool} (hT:WB P T=some g) (w:World):(isAgg T).run P w=.ok g w:=by
 unfold WB at hT
 cases hu:P.underlying T with
 | none=>rw [hu] at hT;cases hT
 | some dd =>
  rw [hu] at hT;simp only [Qy6,Qzb.injEq] at hT;unfold isAgg;rw [Sem.run_bind,run_underlying hu w];cases dd <;> simp [TypeDesc.isRow] at hT <;> subst hT <;> rfl
theorem QA {T:TypeId} {s:Nat} (hT:Z1 P T=some s) (w:World):(sizeOf T).run P w=.ok s w:=by
 unfold Z1 at hT
 cases hu:P.info? T with
 | none=>rw [hu] at hT;cases hT
 | some i =>
  rw [hu] at hT;simp only [Qy6,Qzb.injEq] at hT;simp [sizeOf,typeInfo,hu,hT]
theorem VP {T:TypeId} {z:List Value} (hT:Qms P T=some z) (w:World):∃ v:Value,(zeroValue T).run P w=.ok v w∧v.cells=z.toArray:=by
 unfold Qms at hT
 cases hu:P.info? T with
 | none=>rw [hu] at hT;cases hT
 | some i =>
  rw [hu] at hT;simp only [Qzd] at hT
  cases hz:i.zero with
  | none=>rw [hz] at hT;cases hT
  | some v =>
   rw [hz] at hT;simp only [Qy6,Qzb.injEq] at hT;exact ⟨v,by simp [zeroValue,typeInfo,hu,hz],by rw [← hT]⟩
theorem Qj5 {x:Operand} {r off:Nat} (hx:Gv (st.ev x) (.own r off)) (hd:Qy3 d n=true):Qf P E kp n ops ⟨some d,.nilCheck x,ty,ps,af,none⟩ st (st.put d (.own r off)) :=
 QG _ rfl rfl hd fun a w φ Pub I hs=>by
  have h:=hx _ _ _ _ (hs x);refine ⟨a.eval x,?_,h⟩;unfold RA at h;obtain ⟨b,c,_,e⟩:=h;simp [execOp,e]
theorem Qn5 {x:Operand} {cells:List PV} {off:Nat} (hx:Gv (st.ev x) (.p (.pp cells off))) (hd:Qy3 d n=true):Qf P E kp n ops ⟨some d,.nilCheck x,ty,ps,af,none⟩ st (st.put d (.p (.pp cells off))) :=
 QG _ rfl rfl hd fun a w φ Pub I hs=>by
  have h:=hx _ _ _ _ (hs x);refine ⟨a.eval x,?_,h⟩;unfold RA RP at h;obtain ⟨b,c,e,_⟩:=h;simp [execOp,e]
theorem Qj6 {T:TypeId} {fs:Array Field} {pl:List (Nat×Nat)} (hu:P.underlying T=some (.struct fs)) (hp:Qdh P T=some pl) {i o s:Nat} (hi:pl[i]? = some (o,s)) :
  ∃ f,fs[i]? = some f∧f.offset=o∧Z1 P f.type=some s:=by
 unfold Qdh at hp;rw [hu] at hp;simp only at hp
 have key:∀ (l:List Field) (pl:List (Nat×Nat)) (i:Nat),(l.mapM fun f=>(P.info? f.type).map fun i=>(f.offset,i.size))=some pl→pl[i]? = some (o,s)→∃ f,l[i]? = some f∧f.offset=o∧Z1 P f.type=some s:=by
  intro l
  induction l with
  | nil=>intro pl i h1 h2;simp at h1;subst h1;simp at h2
  | cons f l ih =>
   intro pl i h1 h2;rw [List.mapM_cons] at h1
   cases hq:P.info? f.type with
   | none=>rw [hq] at h1;cases h1
   | some fi =>
    rw [hq] at h1
    cases hl:(l.mapM fun f=>(P.info? f.type).map fun i=>(f.offset,i.size)) with
    | none=>simp only [hl] at h1;cases h1
    | some pl' =>
     simp only [hl,Qy6] at h1;cases h1
     cases i with
     | zero =>
      simp at h2;exact ⟨f,rfl,h2.1,by unfold Z1;rw [hq];simp [h2.2]⟩
     | succ i =>
      simp at h2;obtain ⟨f',h3,h4⟩:=ih pl' i hl h2;exact ⟨f',by simpa using h3,h4⟩
 obtain ⟨f,h1,h2⟩:=key fs.toList pl i hp hi;exact ⟨f,by simpa using h1,h2⟩
theorem Qdi {T:TypeId} {pl:List (Nat×Nat)} (hp:Qdh P T=some pl):∃ fs,P.underlying T=some (.struct fs):=by
 unfold Qdh at hp;split at hp
 ·next fs h=>exact ⟨fs,h⟩
 ·cases hp
theorem QdY {T:TypeId} {pl:List (Nat×Nat)} (hp:Qdh P T=some pl) {i o s:Nat} (hi:pl[i]? = some (o,s)) (hs:s≠0) (b off:Nat) (w:World) :
  (Instr.fieldAt T (.pointer (some ⟨b,off,none⟩)) i).run P w=.ok (.pointer (some ⟨b,off+o,none⟩)) w:=by
 obtain ⟨fs,hu⟩:=Qdi hp;obtain ⟨f,h1,h2,h3⟩:=Qj6 hu hp hi;unfold Instr.fieldAt;rw [Sem.run_bind,run_underlying hu w];simp [h1,Instr.sureAddr,fieldPlace,QA h3,hs,h2,Addr.add_mid]
theorem Qfe {T:TypeId} {x:Operand} {f r off o s:Nat} {pl:List (Nat×Nat)} (hx:Gv (st.ev x) (.own r off)) (hp:Qdh P T=some pl) (hi:pl[f]? = some (o,s)) (hs:s≠0) (hd:Qy3 d n=true) :
  Qf P E kp n ops ⟨some d,.fieldAddr T x f,ty,ps,af,none⟩ st (st.put d (.own r (off+o))) :=
 QG _ rfl rfl hd fun a w φ Pub I hR=>by
  have h:=hx _ _ _ _ (hR x);unfold RA at h;obtain ⟨b,c,e0,e⟩:=h;refine ⟨.pointer (some ⟨b,off+o,none⟩),?_,by unfold RA;exact ⟨b,c,e0,rfl⟩⟩;simp only [execOp,e];rw [Sem.run_bind,QdY hp hi hs];rfl
theorem Qhd {T:TypeId} {x:Operand} {f off o s:Nat} {cells:List PV} {pl:List (Nat×Nat)} (hx:Gv (st.ev x) (.p (.pp cells off))) (hp:Qdh P T=some pl) (hi:pl[f]? = some (o,s)) (hs:s≠0) (hd:Qy3 d n=true) :
  Qf P E kp n ops ⟨some d,.fieldAddr T x f,ty,ps,af,none⟩ st (st.put d (.p (.pp cells (off+o)))) :=
 QG _ rfl rfl hd fun a w φ Pub I hR=>by
  have h:=hx _ _ _ _ (hR x);unfold RA RP at h;obtain ⟨b,q,e,h⟩:=h;refine ⟨.pointer (some ⟨b,q+(off+o),none⟩),?_,by unfold RA RP;exact ⟨b,q,rfl,h⟩⟩;simp only [execOp,e];rw [Sem.run_bind,QdY hp hi hs,Nat.add_assoc];rfl
theorem Ye {T e:TypeId} {s:Nat} (hT:Jz P T=some (e,s)):P.underlying T=some (.slice e)∧Z1 P e=some s:=by
 unfold Jz at hT;split at hT
 ·next e' h =>
  cases hq:P.info? e' with
  | none=>rw [hq] at hT;cases hT
  | some i =>
   rw [hq] at hT;simp only [Qy6,Qzb.injEq,Prod.mk.injEq] at hT;obtain ⟨rfl,h2⟩:=hT;exact ⟨h,by unfold Z1;rw [hq];simp [h2]⟩
 ·cases hT
theorem Qxg {T:TypeId} {m s:Nat} (hT:Qj4 P T=some (m,s)):∃ e,P.underlying T=some (.array m e)∧Z1 P e=some s:=by
 unfold Qj4 at hT;split at hT
 ·next m' e' h =>
  cases hq:P.info? e' with
  | none=>rw [hq] at hT;cases hT
  | some i =>
   rw [hq] at hT;simp only [Qy6,Qzb.injEq,Prod.mk.injEq] at hT;obtain ⟨rfl,h2⟩:=hT;exact ⟨e',h,by unfold Z1;rw [hq];simp [h2]⟩
 ·cases hT
theorem QdZ {T e:TypeId} {s:Nat} (hT:Jz P T=some (e,s)) (b off m c:Nat) {k:IntKind} {i:Int} (h0:0≤i) (h1:i < m) (w:World) :
  (Instr.indexAt T (.slice (some ⟨b,off,none⟩) m c) (.int k i)).run P w=.ok (.pointer (some ⟨b,off+i.toNat * s,none⟩)) w:=by
 obtain ⟨hu,hs⟩:=Ye hT;simp [Instr.indexAt,asIntOf,run_underlying hu,h0,h1,QA hs,Addr.add_mid]
theorem Qd0 {T:TypeId} {m s:Nat} (hT:Qj4 P T=some (m,s)) (b off:Nat) {k:IntKind} {i:Int} (h0:0≤i) (h1:i < m) (w:World) :
  (Instr.indexAt T (.pointer (some ⟨b,off,none⟩)) (.int k i)).run P w=.ok (.pointer (some ⟨b,off+i.toNat * s,none⟩)) w:=by
 obtain ⟨e,hu,hs⟩:=Qxg hT;simp [Instr.indexAt,asIntOf,run_underlying hu,Instr.sureAddr,h0,h1,QA hs,Addr.add_mid]
section
variable {T e:TypeId} {x y:Operand} {k:IntKind} {i:Int} {s:Nat} (hy:Gv (st.ev y) (.p (.v (.int k i)))) (hd:Qy3 d n=true)
include hy hd
theorem Qdj {cells:List PV} {m:Nat} (hx:Gv (st.ev x) (.p (.sl cells m))) (hT:Jz P T=some (e,s)) (h0:0≤i) (h1:i < m) :
  Qf P E kp n ops ⟨some d,.indexAddr T x y,ty,ps,af,none⟩ st (st.put d (.p (.pp cells (i.toNat * s)))) :=
 QG _ rfl rfl hd fun a w φ Pub I hR=>by
  have h:=hx _ _ _ _ (hR x);unfold RA RP at h;obtain ⟨ad,c,e1,h2,h3,h3',h4⟩:=h;rcases h4 with h4 | ⟨b,o,e4,h4⟩
  ·omega
  subst e4;refine ⟨.pointer (some ⟨b,o+i.toNat * s,none⟩),?_,by unfold RA RP;exact ⟨b,o,rfl,h4⟩⟩;simp only [execOp,e1,hy.v (hR y)];rw [Sem.run_bind,QdZ hT b o m c h0 h1];rfl
theorem Qmz {r m sz pub:Nat} {cells:List PV} {t:TypeId} (hx:Gv (st.ev x) (.osl r m)) (hT:Jz P T=some (e,s)) (h0:0≤i) (h1:i < m) :
  Qf P E kp n ops ⟨some d,.indexAddr T x y,ty,ps,af,none⟩ st (st.put d (.own r (i.toNat * s))) :=
 QG _ rfl rfl hd fun a w φ Pub I hR=>by
  have h:=hx _ _ _ _ (hR x);unfold RA at h;rcases h with ⟨b,c,e1,e2,h3⟩ | ⟨_,h2,_⟩
  ·refine ⟨.pointer (some ⟨b,0+i.toNat * s,none⟩),?_,by unfold RA;exact ⟨b,c,e1,by rw [Nat.zero_add]⟩⟩;simp only [execOp,e2,hy.v (hR y)];rw [Sem.run_bind,QdZ hT b 0 m c h0 h1];rfl
  ·omega
theorem QmA {r off m:Nat} (hx:Gv (st.ev x) (.own r off)) (hT:Qj4 P T=some (m,s)) (h0:0≤i) (h1:i < m) :
  Qf P E kp n ops ⟨some d,.indexAddr T x y,ty,ps,af,none⟩ st (st.put d (.own r (off+i.toNat * s))) :=
 QG _ rfl rfl hd fun a w φ Pub I hR=>by
  have h:=hx _ _ _ _ (hR x);unfold RA at h;obtain ⟨b,c,e0,e1⟩:=h;refine ⟨.pointer (some ⟨b,off+i.toNat * s,none⟩),?_,by unfold RA;exact ⟨b,c,e0,rfl⟩⟩;simp only [execOp,e1,hy.v (hR y)];rw [Sem.run_bind,Qd0 hT b off h0 h1];rfl
theorem Qir {off m:Nat} {cells:List PV} (hx:Gv (st.ev x) (.p (.pp cells off))) (hT:Qj4 P T=some (m,s)) (h0:0≤i) (h1:i < m) :
  Qf P E kp n ops ⟨some d,.indexAddr T x y,ty,ps,af,none⟩ st (st.put d (.p (.pp cells (off+i.toNat * s)))) :=
 QG _ rfl rfl hd fun a w φ Pub I hR=>by
  have h:=hx _ _ _ _ (hR x);unfold RA RP at h;obtain ⟨b,q,e1,h⟩:=h;refine ⟨.pointer (some ⟨b,q+(off+i.toNat * s),none⟩),?_,by unfold RA RP;exact ⟨b,q,rfl,h⟩⟩;simp only [execOp,e1,hy.v (hR y)];rw [Sem.run_bind,Qd0 hT b (q+off) h0 h1,Nat.add_assoc];rfl
theorem QmB {l:List UInt8} {c:UInt8} (hx:Gv (st.ev x) (.p (.v (.string ⟨l.toArray⟩)))) (hT:P.underlying T=some .string) (h0:0≤i) (h1:l[i.toNat]? = some c) :
  Qf P E kp n ops ⟨some d,.index T x y,ty,ps,af,none⟩ st (st.put d (.p (.v (.int .u8 (c.toNat:Int))))) :=
 QG _ rfl rfl hd fun a w φ Pub I hR=>by
  refine ⟨.int .u8 (c.toNat:Int),?_,by simp [RA,RP]⟩
  have hg:(⟨l.toArray⟩:ByteArray)[i.toNat]? = some c:=by
   have hlt:i.toNat < l.length:=(Qy8.1 h1).1;have hlt':i.toNat < (⟨l.toArray⟩:ByteArray).size:=by simpa [ByteArray.size] using hlt
   have h2:=(Qy8.1 h1).2;rw [getElem?_pos (⟨l.toArray⟩:ByteArray) i.toNat hlt',← h2];rfl
  simp only [execOp,hx.v (hR x),hy.v (hR y)];rw [Sem.run_bind];simp [Instr.index,asIntOf,run_underlying hT,h0,hg]
theorem Qff {l:List AV} {m:Nat} {v:AV} (hx:Gv (st.ev x) (.agg l)) (hT:P.underlying T=some (.array m e)) (he:WB P e=some false) (hz:Z1 P e=some 1) (h0:0≤i) (h1:i < m) (hv:l[i.toNat]? = some v) :
  Qf P E kp n ops ⟨some d,.index T x y,ty,ps,af,none⟩ st (st.put d v) :=
 QG _ rfl rfl hd fun a w φ Pub I hR=>by
  have h:=hx _ _ _ _ (hR x);unfold RA at h;obtain ⟨vs,e1,h⟩:=h;obtain ⟨u,hu,hRv⟩:=Jy h hv;refine ⟨u,?_,hRv⟩;simp only [execOp,e1,hy.v (hR y)];rw [Sem.run_bind];simp [Instr.index,asIntOf,run_underlying hT,h0,h1,QA hz,part,Y8 he,hu]
theorem Qj7 {l:List AV} {m:Nat} {v:List AV} (hx:Gv (st.ev x) (.agg l)) (hT:P.underlying T=some (.array m e)) (he:WB P e=some true) (hz:Z1 P e=some s) (h0:0≤i) (h1:i < m) (hv:(l.drop (i.toNat * s)).take s=v) :
  Qf P E kp n ops ⟨some d,.index T x y,ty,ps,af,none⟩ st (st.put d (.agg v)) :=
 QG _ rfl rfl hd fun a w φ Pub I hR=>by
  have h:=hx _ _ _ _ (hR x);unfold RA at h;obtain ⟨vs,e1,h⟩:=h;refine ⟨.agg (vs.toArray.extract (i.toNat * s) (i.toNat * s+s)),?_,?_⟩
  ·simp only [execOp,e1,hy.v (hR y)];rw [Sem.run_bind];simp [Instr.index,asIntOf,run_underlying hT,h0,h1,QA hz,part,Y8 he]
  ·unfold RA;refine ⟨(vs.drop (i.toNat * s)).take s,?_,by rw [← hv];exact Qaj s (Qai _ h)⟩;simp
end
theorem V6 {T:TypeId} (hT:WB P T=some false) {b off:Nat} {u:Value} {w:World} (hc:w.cell? ⟨b,off,none⟩=some u):(Instr.loadAt T (.pointer (some ⟨b,off,none⟩))).run P w=.ok u w:=by
 simp [Instr.loadAt,Instr.sureAddr,loadVar,Y8 hT,load,Sem.run,hc]
theorem V7 {T:TypeId} {s:Nat} (hT:WB P T=some true) (hs:Z1 P T=some s) {b off:Nat} {vs:List Value} {w:World} (hl:vs.length=s) (hc:w.rangeAt b off vs) :
  (Instr.loadAt T (.pointer (some ⟨b,off,none⟩))).run P w=.ok (.agg vs.toArray) w:=by
 have hl':(loadCells ⟨b,off,none⟩ s).run P w=.ok vs.toArray w:=by
  rw [← hl];exact run_loadCells_list (P:=P) w ⟨b,off,none⟩ vs (fun j v hv=>by rw [Addr.add_mid];exact hc j v hv)
 simp [Instr.loadAt,Instr.sureAddr,loadVar,Y8 hT,QA hs,hl']
section
variable {φ:Qt} {Pub:Nat→Nat→Prop} {h:List (Nat×OB)} {w:World}
theorem XP (I:Inv E kp φ Pub h w) {r b c:Nat} {cells:List AV} {t:TypeId} (hl:look OB.dead h r=.box cells t) (hr:φ r=some (b,c)) :
  ∃ cur:Array Value,w.heap[b]? = some (.cells cur t (0,0))∧RAs w Pub φ cells cur.toList ∧ ∀ u∈cur.toList,u.oneCell'=true:=by
 have k:=I.own r;rw [hl] at k;obtain ⟨b',cur,k1,k2,k3,k4,k5⟩:=k;rw [hr] at k1;cases k1;exact ⟨cur,k2,k3,k4⟩
theorem JA (I:Inv E kp φ Pub h w) {r b c sz pub:Nat} {cells:List PV} {t:TypeId} (hl:look OB.dead h r=.row cells t sz pub) (hr:φ r=some (b,c)) :
  ∃ vs:List Value,RPs w Pub cells vs∧(∀ u∈vs,u.oneCell'=true) ∧ ∀ j u,vs[j]? = some u→w.cell? ⟨b,j,none⟩=some u:=by
 have k:=I.own r;rw [hl] at k;rcases k with ⟨k0,_⟩ | ⟨b',c',cur,fr,k1,⟨k2,k2'⟩,k3,k4,k5,k6,k7,k8⟩
 ·rw [hr] at k0;cases k0
 rw [hr] at k1;cases k1;refine ⟨_,k6,k7,fun j u hj=>?_⟩;rw [cell_of_row w b j cur t fr k2];rw [Qy9] at hj;split at hj
 ·simpa using hj
 ·cases hj
end
section
variable {T:TypeId} {x:Operand} (hd:Qy3 d n=true)
include hd
theorem Qhe {r off:Nat} {cells:List AV} {t:TypeId} {v:AV} (hx:Gv (st.ev x) (.own r off)) (hT:WB P T=some false) (hl:st.ob r=.box cells t) (hv:cells[off]? = some v) :
  Qf P E kp n ops ⟨some d,.load T x,ty,ps,af,none⟩ st (st.put d v) :=
 QG _ rfl rfl hd fun a w φ Pub I hR=>by
  have h:=hx _ _ _ _ (hR x);unfold RA at h;obtain ⟨b,c,e0,e⟩:=h;obtain ⟨cur,c1,c2,_⟩:=XP I hl e0;obtain ⟨u,hu,hRv⟩:=Jy c2 hv;refine ⟨u,?_,hRv⟩;simp only [execOp,e];rw [Sem.run_bind,V6 hT (by rw [cell_of_row w b off cur t (0,0) c1];simpa using hu)];rfl
theorem Qfg {r off s:Nat} {cells:List AV} {t:TypeId} {l:List AV} (hx:Gv (st.ev x) (.own r off)) (hT:WB P T=some true) (hs:Z1 P T=some s) (hl:st.ob r=.box cells t)
  (hv:(cells.drop off).take s=l) (hlen:l.length=s):Qf P E kp n ops ⟨some d,.load T x,ty,ps,af,none⟩ st (st.put d (.agg l)) :=
 QG _ rfl rfl hd fun a w φ Pub I hR=>by
  have h:=hx _ _ _ _ (hR x);unfold RA at h;obtain ⟨b,c,e0,e⟩:=h;obtain ⟨cur,c1,c2,_⟩:=XP I hl e0;have c3:=Qaj s (Qai off c2);rw [hv] at c3;refine ⟨_,?_,by unfold RA;exact ⟨_,rfl,c3⟩⟩;simp only [execOp,e]
  rw [Sem.run_bind,V7 hT hs (by rw [Wf c3];exact hlen) (fun j v hj=>by
   rw [cell_of_row w b _ cur t (0,0) c1];rw [Qy9] at hj;split at hj
   ·rw [Qzc] at hj;simpa using hj
   ·cases hj)];rfl
theorem Qdk {r off sz pub:Nat} {cells:List PV} {t:TypeId} {v:PV} (hx:Gv (st.ev x) (.own r off)) (hT:WB P T=some false) (hl:st.ob r=.row cells t sz pub) (hv:cells[off]? = some v) :
  Qf P E kp n ops ⟨some d,.load T x,ty,ps,af,none⟩ st (st.put d (.p v)) :=
 QG _ rfl rfl hd fun a w φ Pub I hR=>by
  have h:=hx _ _ _ _ (hR x);unfold RA at h;obtain ⟨b,c,e0,e⟩:=h;obtain ⟨vs,c1,c2,c3⟩:=JA I hl e0;obtain ⟨u,hu,hRv⟩:=Qip c1 hv;refine ⟨u,?_,by unfold RA;exact hRv⟩;simp only [execOp,e];rw [Sem.run_bind,V6 hT (c3 off u hu)];rfl
theorem Qfh {r off s sz pub:Nat} {cells:List PV} {t:TypeId} {l:List PV} (hx:Gv (st.ev x) (.own r off)) (hT:WB P T=some true) (hs:Z1 P T=some s) (hl:st.ob r=.row cells t sz pub)
  (hv:(cells.drop off).take s=l) (hlen:l.length=s):Qf P E kp n ops ⟨some d,.load T x,ty,ps,af,none⟩ st (st.put d (.p (.agg l))) :=
 QG _ rfl rfl hd fun a w φ Pub I hR=>by
  have h:=hx _ _ _ _ (hR x);unfold RA at h;obtain ⟨b,c,e0,e⟩:=h;obtain ⟨vs,c1,c2,c3⟩:=JA I hl e0;have c4:=Qci s (Qfc off c1);rw [hv] at c4;refine ⟨_,?_,by unfold RA RP;exact ⟨_,rfl,c4⟩⟩;simp only [execOp,e]
  rw [Sem.run_bind,V7 hT hs (by rw [WU c4];exact hlen) (fun j v hj=>by
   rw [Qy9] at hj;split at hj
   ·rw [Qzc] at hj;exact c3 _ _ hj
   ·cases hj)];rfl
theorem Qfi {off:Nat} {cells:List PV} {v:PV} (hx:Gv (st.ev x) (.p (.pp cells off))) (hT:WB P T=some false) (hv:cells[off]? = some v) :
  Qf P E kp n ops ⟨some d,.load T x,ty,ps,af,none⟩ st (st.put d (.p v)) :=
 QG _ rfl rfl hd fun a w φ Pub I hR=>by
  have h:=hx _ _ _ _ (hR x);unfold RA RP at h;obtain ⟨b,o,e,hc⟩:=h;obtain ⟨u,hu,_,_,hRv⟩:=Qa7 hc hv;refine ⟨u,?_,by unfold RA;exact hRv⟩;simp only [execOp,e];rw [Sem.run_bind,V6 hT hu];rfl
theorem Qhf {off s:Nat} {cells:List PV} {l:List PV} (hx:Gv (st.ev x) (.p (.pp cells off))) (hT:WB P T=some true) (hs:Z1 P T=some s)
  (hv:(cells.drop off).take s=l) (hlen:l.length=s):Qf P E kp n ops ⟨some d,.load T x,ty,ps,af,none⟩ st (st.put d (.p (.agg l))) :=
 QG _ rfl rfl hd fun a w φ Pub I hR=>by
  have h:=hx _ _ _ _ (hR x);unfold RA RP at h;obtain ⟨b,o,e,hc⟩:=h;have hc2:=Qj2 s (Qj1 off hc);rw [hv] at hc2;obtain ⟨vs,c1,c2,c3⟩:=Qcj hc2;refine ⟨_,?_,by unfold RA RP;exact ⟨_,rfl,c1⟩⟩;simp only [execOp,e];rw [Sem.run_bind,V7 hT hs (by rw [WU c1];exact hlen) (fun j v hj=>c3 j v hj)];rfl
theorem QrO {f o s:Nat} {l:List AV} {v:AV} {pl:List (Nat×Nat)} {fs:Array Field} (hx:Gv (st.ev x) (.agg l)) (hp:Qdh P T=some pl) (hi:pl[f]? = some (o,s))
  (hf:∀ fs fd,P.underlying T=some (.struct fs)→fs[f]? = some fd→WB P fd.type=some false) (hv:l[o]? = some v) :
  Qf P E kp n ops ⟨some d,.field T x f,ty,ps,af,none⟩ st (st.put d v) :=
 QG _ rfl rfl hd fun a w φ Pub I hR=>by
  have h:=hx _ _ _ _ (hR x);unfold RA at h;obtain ⟨vs,e,h⟩:=h;obtain ⟨fs,hu⟩:=Qdi hp;obtain ⟨fd,h1,h2,h3⟩:=Qj6 hu hp hi;obtain ⟨u,h4,h5⟩:=Jy h hv;refine ⟨u,?_,h5⟩;simp only [execOp,e];rw [Sem.run_bind];simp [Instr.field,run_underlying hu,h1,asAgg,part,Y8 (hf fs fd hu h1),h2,h4]
theorem QpN {i:Nat} {l:List AV} {v:AV} (hx:Gv (st.ev x) (.tup l)) (hv:l[i]? = some v):Qf P E kp n ops ⟨some d,.extract x i,ty,ps,af,none⟩ st (st.put d v) :=
 QG _ rfl rfl hd fun a w φ Pub I hR=>by
  have h:=hx _ _ _ _ (hR x);unfold RA at h;obtain ⟨vs,e,h⟩:=h;obtain ⟨u,h4,h5⟩:=Jy h hv;exact ⟨u,by simp [execOp,e,Instr.extract,h4],h5⟩
end
def AV.cs:AV→List AV
 | .agg l=>l
 | .p (.agg l)=>l.map .p
 | x=>[x]
def AV.one:AV→Bool
 | .p (.v u)=>u.oneCell'
 | .p (.pp _ _)=>true
 | .p (.sl _ _)=>true
 | .p (.fn _ _)=>true
 | .own _ _=>true
 | .osl _ _=>true
 | .mref _=>true
 | .oss _ _ _ _=>true
 | _=>false
def ZN:List AV→Bool
 | []=>true
 | x::xs=>x.one && ZN xs
section
variable {φ:Qt} {Pub:Nat→Nat→Prop} {w:World}
theorem Qxh {x:AV} {u:Value} (h1:x.one=true) (h:RA w Pub φ x u):u.oneCell'=true:=by
 cases x with
 | p q =>
  cases q with
  | v z=>unfold RA RP at h;subst h;exact h1
  | pp cells off=>unfold RA RP at h;obtain ⟨b,o,rfl,_⟩:=h;rfl
  | sl cells m=>unfold RA RP at h;obtain ⟨b,o,rfl,_⟩:=h;rfl
  | fn f caps=>unfold RA RP at h;obtain ⟨b,rfl,_⟩:=h;rfl
  | _=>cases h1
 | own r off=>unfold RA at h;obtain ⟨b,o,_,rfl⟩:=h;rfl
 | osl r m =>
  unfold RA at h;rcases h with ⟨b,o,_,rfl,_⟩ | ⟨_,_,rfl⟩ <;> rfl
 | mref r=>unfold RA at h;obtain ⟨b,_,rfl⟩:=h;rfl
 | oss r k m s =>
  unfold RA at h;rcases h with ⟨b,c,o,c',_,rfl,_⟩ | ⟨_,_,_,rfl⟩ <;> rfl
 | _=>cases h1
theorem Qak:∀ {l:List AV} {us:List Value},ZN l=true→RAs w Pub φ l us → ∀ u∈us,u.oneCell'=true
 | [],us,_,h,u,hu=>by unfold RAs at h;subst h;cases hu
 | x::xs,us,h1,h,u,hu=>by
  unfold RAs at h;obtain ⟨v,vs,rfl,h2,h3⟩:=h;simp only [ZN,Qze] at h1;rcases List.mem_cons.1 hu with rfl | hu
  ·exact Qxh h1.1 h2
  ·exact Qak h1.2 h3 u hu
theorem Qxi:∀ {l:List PV} {us:List Value},RPs w Pub l us→RAs w Pub φ (l.map .p) us
 | [],us,h=>by unfold RPs at h;simp only [Qzg];unfold RAs;exact h
 | x::xs,us,h=>by
  unfold RPs at h;obtain ⟨v,vs,rfl,h2,h3⟩:=h;rw [Qza];unfold RAs;exact ⟨v,vs,rfl,by unfold RA;exact h2,Qxi h3⟩
theorem QgW {u:Value} (h:u.oneCell'=true):u.cells = #[u]:=by cases u <;> first | rfl | cases h
theorem QrP {x:AV} {u:Value} (h1:ZN x.cs=true) (h:RA w Pub φ x u):RAs w Pub φ x.cs u.cells.toList ∧ ∀ v∈u.cells.toList,v.oneCell'=true:=by
 have single:∀ y:AV,y.one=true→RA w Pub φ y u→RAs w Pub φ [y] u.cells.toList ∧ ∀ v∈u.cells.toList,v.oneCell'=true:=fun y hy hR=>by
  have h2:=Qxh hy hR;rw [QgW h2];refine ⟨by unfold RAs;exact ⟨u,[],rfl,hR,by unfold RAs;rfl⟩,fun v hv=>?_⟩;simp at hv;subst hv;exact h2
 cases x with
 | agg l =>
  unfold RA at h;obtain ⟨vs,rfl,h⟩:=h;exact ⟨h,Qak h1 h⟩
 | p q =>
  cases q with
  | agg l =>
   unfold RA RP at h;obtain ⟨vs,rfl,h⟩:=h;have h3:RAs w Pub φ (l.map .p) vs:=Qxi h;exact ⟨h3,Qak h1 h3⟩
  | _=>exact single _ (by simpa [AV.cs,ZN] using h1) h
 | _=>exact single _ (by simpa [AV.cs,ZN] using h1) h
theorem V8:∀ (vs:List Value),RAs w Pub φ (vs.map fun v=>.p (.v v)) vs
 | []=>by simp only [Qzg];unfold RAs;rfl
 | v::vs=>by
  rw [Qza];unfold RAs;exact ⟨v,vs,rfl,by unfold RA RP;rfl,V8 vs⟩
end
def Qej (vs:List Value):List AV:=vs.map fun v=>.p (.v v)
theorem QuV {T:TypeId} {z:List Value} (r:Nat) (hz:Qms P T=some z) (h1:z.all (·.oneCell')=true) (hf:st.free kp r=true) (hd:Qy3 d n=true) :
  Qf P E kp n ops ⟨some d,.alloc T,ty,ps,af,none⟩ st ⟨(d,.own r 0)::st.slots,(r,.box (Qej z) T)::st.heap⟩:=by
 refine Qf.val rfl fun a w ⟨φ,Pub,I,h0,hn,hs⟩=>?_;obtain ⟨v,hv,hc⟩:=VP hz w;obtain ⟨f1,f2,f3,f4⟩:=QE hf
 have I':=I.alloc f1 f2 f4 (.cells z.toArray T) 1 (ob:=.box (Qej z) T) ⟨w.heap.size,z.toArray,if_pos rfl,heap_alloc_new w _,V8 z,fun u hu=>by
  rw [List.all_eq_true] at h1;exact h1 u (by simpa using hu),fun i hp=>by have:=I.publ _ _ hp;omega⟩
 refine ⟨.pointer (some ⟨w.heap.size,0,none⟩),w.alloc (.cells z.toArray T),?_,Sat.put I' h0 hn (fun s=>Qck I (WP f3) 1 (hs s)) hd (by unfold RA;exact ⟨_,_,if_pos rfl,rfl⟩)⟩;simp only [execOp,Instr.alloc];simp [Sem.run_bind,hv,newVar,newRow,hc,newObj,Sem.run]
theorem Qxj {T:TypeId} {x:Operand} {y:AV} (r:Nat) (hx:Gv (st.ev x) y) (h1:ZN y.cs=true) (hy:XO r y.cs=false) (hf:st.free kp r=true) (hd:Qy3 d n=true) :
  Qf P E kp n ops ⟨some d,.box T x,ty,ps,af,none⟩ st ⟨(d,.own r 0)::st.slots,(r,.box y.cs T)::st.heap⟩:=by
 refine Qf.val rfl fun a w ⟨φ,Pub,I,h0,hn,hs⟩=>?_;obtain ⟨f1,f2,f3,f4⟩:=QE hf;have hxR:=hx _ _ _ _ (ZW (h:=st.heap) hs x);obtain ⟨c1,c2⟩:=QrP h1 hxR;have I':=I.alloc f1 f2 f4 (.cells (a.eval x).cells T) 1 (ob:=.box y.cs T) ⟨w.heap.size,(a.eval x).cells,if_pos rfl,heap_alloc_new w _,QpK I hy 1 c1,c2,fun i hp=>by have:=I.publ _ _ hp;omega⟩;refine ⟨.pointer (some ⟨w.heap.size,0,none⟩),w.alloc (.cells (a.eval x).cells T),?_,Sat.put I' h0 hn (fun s=>Qck I (WP f3) 1 (hs s)) hd (by unfold RA;exact ⟨_,_,if_pos rfl,rfl⟩)⟩;simp [execOp,Instr.box,newVar,newRow,newObj,Sem.run]
theorem QbK {T:TypeId} {s:Nat} (hs:Z1 P T=some s) {b off:Nat} {u:Value} {w:World} {cur:Array Value} {t:TypeId} {fr:Nat×Nat} (hb:w.heap[b]? = some (.cells cur t fr)) (hfr:Qj0 t cur.size fr)
  (hl:u.cells.toList.length=s) (hin:off+s≤cur.size) (h1:∀ v∈u.cells.toList,v.oneCell'=true) :
  (Instr.storeAt T (.pointer (some ⟨b,off,none⟩)) u).run P w=.ok () (w.setCells b off u.cells.toList):=by
 have hst:=run_storeCells_cells (P:=P) b off u.cells.toList 0 w (fun j hj=>by
  rw [cell_of_row w b _ cur t fr hb,Array.getElem?_eq_getElem (by omega)];rfl) (fun j hj=>by
  unfold World.frozen?;simp only [hb];rcases hfr with h0 | h0
  ·subst h0;simp
  ·have:=h0.1;simp;omega) h1
 simp only [Nat.add_zero] at hst;rw [Qzf] at hl;simp [Instr.storeAt,Instr.sureAddr,storeVar,QA hs,hl,hst]
theorem X7 {T:TypeId} {x y:Operand} {r off s:Nat} {cells:List AV} {t:TypeId} {v:AV} (hx:Gv (st.ev x) (.own r off)) (hy:Gv (st.ev y) v) (hs:Z1 P T=some s) (hl:st.ob r=.box cells t)
  (h1:ZN v.cs=true) (hlen:v.cs.length=s) (hin:off+s≤cells.length):Qf P E kp n ops ⟨none,.store T x y,ty,ps,af,none⟩ st (st.set r (.box (QD cells off v.cs) t)):=by
 refine Qf.skip rfl fun a w ⟨φ,Pub,I,h0,hn,hsl⟩=>?_;have h:=hx _ _ _ _ (ZW (h:=st.heap) hsl x);unfold RA at h;obtain ⟨b,c,e0,e⟩:=h;obtain ⟨c1,c2⟩:=QrP h1 (hy _ _ _ _ (ZW (h:=st.heap) hsl y));have k:=I.own r;have hl':look OB.dead st.heap r=.box cells t:=hl;rw [hl'] at k;obtain ⟨b',cur,k1,k2,k3,k4,k5⟩:=k;rw [e0] at k1;cases k1;have hlc:=Wf k3;rw [Qzf] at hlc;obtain ⟨I',H⟩:=I.storeBox hl' e0 (o:=off) c1 c2;refine ⟨w.setCells b off (a.eval y).cells.toList,?_,φ,Pub,I',h0,hn,fun q=>QX H _ _ (fun _ _=>rfl) (hsl q)⟩;simp only [execOp,e];rw [Sem.run_bind,QbK hs k2 (.inl rfl) (by rw [Wf c1];exact hlen) (by omega) c2];rfl
theorem QbL {T:TypeId} {x y:Operand} {r off s sz pub:Nat} {cells qs:List PV} {t:TypeId} {v:AV} (hx:Gv (st.ev x) (.own r off)) (hy:Gv (st.ev y) v) (hs:Z1 P T=some s) (hl:st.ob r=.row cells t sz pub)
  (h1:ZN v.cs=true) (hq:AV.toPs v.cs=some qs) (hlen:qs.length=s) (hpub:pub≤off) (hin:off+s≤cells.length):Qf P E kp n ops ⟨none,.store T x y,ty,ps,af,none⟩ st (st.set r (.row (QD cells off qs) t sz pub)):=by
 refine Qf.skip rfl fun a w ⟨φ,Pub,I,h0,hn,hsl⟩=>?_;have h:=hx _ _ _ _ (ZW (h:=st.heap) hsl x);unfold RA at h;obtain ⟨b,c,e0,e⟩:=h;obtain ⟨c1,c2⟩:=QrP h1 (hy _ _ _ _ (ZW (h:=st.heap) hsl y));have c1':=Qiq hq c1;have k:=I.own r;have hl':look OB.dead st.heap r=.row cells t sz pub:=hl;rw [hl'] at k;rcases k with ⟨k0,_⟩ | ⟨b',c',cur,fr,k1,⟨k2,k2'⟩,k3,k4,k5,k6,k7,k8⟩
 ·rw [e0] at k0;cases k0
 rw [e0] at k1;cases k1;obtain ⟨I',H⟩:=I.storeRow hl' e0 c1' c2 hpub (by omega);refine ⟨w.setCells b off (a.eval y).cells.toList,?_,φ,Pub,I',h0,hn,fun q=>QX H _ _ (fun _ _=>rfl) (hsl q)⟩;simp only [execOp,e];rw [Sem.run_bind,QbK hs k2 k2' (by rw [WU c1'];exact hlen) (by omega) c2];rfl
section
variable {T:TypeId} {x y:Operand} {r off s:Nat} {cells:List AV} {t:TypeId} (hx:Gv (st.ev x) (.own r off)) (hs:Z1 P T=some s) (hl:st.ob r=.box cells t)
include hx hs hl
end
section
variable {T:TypeId} {x:Operand} (r:Nat) (hf:st.free kp r=true) (hd:Qy3 d n=true)
include hf hd
end
end
end
section
open Go.RowKit
section
variable {P:Program} {E:Env} {kp:List Nat} {n:Nat} {ops:Array Oper} {st st':AS} {Q:Exit→Act→World→Prop}
def Wk (E:Env) (kp:List Nat) (n:Nat) (st st':AS):Prop:=∀ a w,Sat E kp n st a w→Sat E kp n st' a w
theorem Wk.trans {s1 s2 s3:AS} (h:Wk E kp n s1 s2) (k:Wk E kp n s2 s3):Wk E kp n s1 s3:=fun a w hs=>k a w (h a w hs)
def To (E:Env) (kp:List Nat) (n:Nat) (Q:Exit→Act→World→Prop) (e:Exit) (st:AS):Prop:=∀ a w,Sat E kp n st a w→Q e a w
def AO (P:Program) (E:Env) (kp:List Nat) (n:Nat) (ops:Array Oper) (Q:Exit→Act→World→Prop) (rest:List Oper) (st:AS):Prop:=∀ a w,Sat E kp n st a w→wpList P ops Q rest a w
def AW (P:Program) (E:Env) (kp:List Nat) (n:Nat) (c:Code) (Q:Exit→Act→World→Prop) (st:AS):Prop:=∀ a w,Sat E kp n st a w→c.wp P Q a w
theorem AO.step {o:Oper} {rest:List Oper} (h:Qf P E kp n ops o st st') (k:AO P E kp n ops Q rest st'):AO P E kp n ops Q (o::rest) st :=
 fun a w hs=>wpList_step fun K hK=>h a w K Q hs fun a' w' hs'=>hK _ _ (k a' w' hs')
theorem AO.nil (h:To E kp n Q .normal st):AO P E kp n ops Q [] st:=fun a w hs=>wpList_nil (h a w hs)
theorem AO.wk {rest:List Oper} (h:Wk E kp n st st') (k:AO P E kp n ops Q rest st'):AO P E kp n ops Q rest st:=fun a w hs=>k a w (h a w hs)
theorem AW.wk {c:Code} (h:Wk E kp n st st') (k:AW P E kp n c Q st'):AW P E kp n c Q st:=fun a w hs=>k a w (h a w hs)
theorem To.wk {e:Exit} (h:Wk E kp n st st') (k:To E kp n Q e st'):To E kp n Q e st:=fun a w hs=>k a w (h a w hs)
theorem AW.region {id:Nat} {l:List Oper} (h:AO P E kp n l.toArray Q l st):AW P E kp n (.region id l.toArray false) Q st:=fun a w hs=>wp_region_lit (h a w hs)
theorem AW.seq {x y:Code} (h:AW P E kp n x (Exit.then (y.wp P Q) Q) st):AW P E kp n (.seq x y) Q st:=fun a w hs=>wp_seq (h a w hs)
theorem AW.skip (h:To E kp n Q .normal st):AW P E kp n .skip Q st:=fun a w hs=>wp_skip (h a w hs)
theorem AW.ret (h:To E kp n Q .ret st):AW P E kp n .ret Q st:=fun a w hs=>wp_ret (h a w hs)
theorem AW.exit {id:Nat} (h:To E kp n Q (.exit id) st):AW P E kp n (.exit id) Q st:=fun a w hs=>wp_exit (h a w hs)
theorem AW.block {id:Nat} {c:Code} (h:AW P E kp n c (Exit.inBlock id Q) st):AW P E kp n (.block id c) Q st:=fun a w hs=>wp_block (h a w hs)
theorem AW.cond {c:Operand} {x y:Code} {g:Bool} (hc:Gv (st.ev c) (.p (.v (.bool g)))) (h1:g=true→AW P E kp n x Q st) (h2:g=false→AW P E kp n y Q st):AW P E kp n (.cond c x y) Q st:=by
 intro a w hs;have hs':=hs;obtain ⟨φ,Pub,I,h0,hn,hsl⟩:=hs;have e:=hc.v (ZW (h:=st.heap) hsl c);exact wp_cond_split e (fun hg=>h1 hg a w hs') (fun hg=>h2 hg a w hs')
theorem To.seq {y:Code} (h:AW P E kp n y Q st):To E kp n (Exit.then (y.wp P Q) Q) .normal st:=h
theorem To.then_normal {K:Act→World→Prop} (h:To E kp n (fun _=>K) .normal st):To E kp n (Exit.then K Q) .normal st:=h
theorem To.block_exit {id:Nat} (h:To E kp n Q .normal st):To E kp n (Exit.inBlock id Q) (.exit id) st:=fun a w hs=>by
 show (if id=id then Q .normal a w else Q (.exit id) a w);rw [if_pos rfl];exact h a w hs
theorem To.block_exit_ne {id id':Nat} (hne:id'≠id) (h:To E kp n Q (.exit id') st):To E kp n (Exit.inBlock id Q) (.exit id') st:=fun a w hs=>by
 show (if id'=id then Q .normal a w else Q (.exit id') a w);rw [if_neg hne];exact h a w hs
theorem AW.loop {α:Type} {c:Code} (I:α→AS) (ok:α→Prop) (μ:α→Nat) (x0:α) (h0:ok x0) (hst:Wk E kp n st (I x0))
  (round:∀ x,ok x → ∀ K:Act→World→Prop,(∀ y,ok y→μ y < μ x→To E kp n (fun _=>K) .normal (I y))→AW P E kp n c (Exit.then K Q) (I x)):AW P E kp n (.loop c) Q st:=by
 intro a w hs;refine wp_loop_ghost (fun m a w=>∃ x,μ x=m∧ok x∧Sat E kp n (I x) a w) (μ x0) ⟨x0,rfl,h0,hst a w hs⟩ ?_;rintro m a w ⟨x,rfl,hx,hsx⟩;exact round x hx _ (fun y hy hlt a' w' hs'=>⟨μ y,hlt,y,rfl,hy,hs'⟩) a w hsx
def Ev (P:Program) (f:FuncId) (hin:List (Nat×OB)) (args:List AV) (hout:List (Nat×OB)) (res:AV):Prop :=
 ∀ (E:Env) (φ:Qt) (Pub:Nat→Nat→Prop) (w:World) (vs:List Value),E.w0=w→E.φ0=φ→Inv E (hin.map (·.1)) φ Pub hin w→RAs w Pub φ args vs →
  Calls P f vs.toArray w fun e w'=>∃ v φ' Pub',e=.returned v∧Inv E (hin.map (·.1)) φ' Pub' hout w'∧RA w' Pub' φ' res v
def JB:Nat→List AV→List (Nat×AV)
 | _,[]=>[]
 | i,x::xs=>(i,x)::JB (i+1) xs
theorem Qhg {w:World} {Pub:Nat→Nat→Prop} {φ:Qt}:∀ {l:List AV} {vs:List Value} (i:Nat) (A:Array Value),RAs w Pub φ l vs→(∀ j u,vs[j]? = some u→A[i+j]? = some u) → ∀ s,RA w Pub φ (look .any (JB i l) s) (A.getD s undef)
 | [],vs,i,A,_,_,s=>by simp [JB,look,RA]
 | x::xs,vs,i,A,h,hA,s=>by
  unfold RAs at h;obtain ⟨u,us,rfl,h1,h2⟩:=h;simp only [JB,Qb];by_cases e:i=s
  ·subst e;rw [if_pos rfl];have:=hA 0 u rfl;rw [Nat.add_zero] at this;rw [Qy4,this];exact h1
  ·rw [if_neg e];exact Qhg (i+1) A h2 (fun j v hj=>by have:=hA (j+1) v (by simpa using hj);rwa [show i+(j+1)=i+1+j from by omega] at this) s
def Qhh (tmps:Array Value):ResultVar→Sem Value
 | .tmp t=>pure (tmps.getD t undef)
 | .cell a t=>do loadVar t (← asAddr (tmps.getD a undef))
theorem QmC (fn:Func) (tmps:Array Value):results fn tmps=(do let vs ← fn.results.mapM (Qhh tmps);pure (if h:vs.size=1 then vs[0] else .tuple vs)):=by
 unfold results;congr 1
def Qj8 (P:Program) (st:AS) (rv:ResultVar) (x:AV):Prop :=
 ∀ (E:Env) (kp:List Nat) (a:Act) (w:World) (φ:Qt) (Pub:Nat→Nat→Prop),Inv E kp φ Pub st.heap w→(∀ s,RA w Pub φ (look .any st.slots s) (a.tmps.getD s undef)) →
  ∃ v,(Qhh a.tmps rv).run P w=.ok v w∧RA w Pub φ x v
theorem Qj8.tmp {t:Nat} {x:AV} (h:Gv (look .any st.slots t) x):Qj8 P st (.tmp t) x:=fun E kp a w φ Pub I hs=>⟨_,rfl,h _ _ _ _ (hs t)⟩
theorem Qfj {T:TypeId} {ad:Addr} {w:World} {v:Value} (h:(Instr.loadAt T (.pointer (some ad))).run P w=.ok v w):(do loadVar T (← asAddr (.pointer (some ad))):Sem Value).run P w=.ok v w:=by
 simpa [Instr.loadAt,Instr.sureAddr,asAddr] using h
theorem Qj8.box1 {c r off:Nat} {T t:TypeId} {cells:List AV} {x y:AV} (hc:Gv (look .any st.slots c) (.own r off)) (hT:WB P T=some false) (hl:st.ob r=.box cells t) (hv:cells[off]? = some x) (hy:Gv x y):Qj8 P st (.cell c T) y:=by
 intro E kp a w φ Pub I hs;have h:=hc _ _ _ _ (hs c);unfold RA at h;obtain ⟨b,cc,e0,e⟩:=h;obtain ⟨cur,c1,c2,_⟩:=XP I hl e0;obtain ⟨u,hu,hRv⟩:=Jy c2 hv;refine ⟨u,?_,hy _ _ _ _ hRv⟩;simp only [Qhh,e];exact Qfj (V6 hT (by rw [cell_of_row w b off cur t (0,0) c1];simpa using hu))
theorem Qj8.boxN {c r off s:Nat} {T t:TypeId} {cells:List AV} {l:List AV} {y:AV} (hc:Gv (look .any st.slots c) (.own r off)) (hT:WB P T=some true) (hs':Z1 P T=some s) (hl:st.ob r=.box cells t) (hv:(cells.drop off).take s=l) (hlen:l.length=s)
  (hy:Gv (.agg l) y):Qj8 P st (.cell c T) y:=by
 intro E kp a w φ Pub I hs;have h:=hc _ _ _ _ (hs c);unfold RA at h;obtain ⟨b,cc,e0,e⟩:=h;obtain ⟨cur,c1,c2,_⟩:=XP I hl e0;have c3:=Qaj s (Qai off c2);rw [hv] at c3;refine ⟨_,?_,hy _ _ _ _ (by unfold RA;exact ⟨_,rfl,c3⟩)⟩;simp only [Qhh,e]
 exact Qfj (V7 hT hs' (by rw [Wf c3];exact hlen) (fun j v hj=>by
   rw [cell_of_row w b _ cur t (0,0) c1];rw [Qy9] at hj;split at hj
   ·rw [Qzc] at hj;simpa using hj
   ·cases hj))
def subH (h h':List (Nat×OB)):Prop:=∀ r,look OB.dead h' r=look OB.dead h r∨look OB.dead h' r=.dead
theorem Inv.sub {φ:Qt} {Pub:Nat→Nat→Prop} {h h':List (Nat×OB)} {w:World} (I:Inv E kp φ Pub h w) (hs:subH h h'):Inv E kp φ Pub h' w:=by
 have hal:∀ q,(look OB.dead h' q).alive=true→look OB.dead h' q=look OB.dead h q∧(look OB.dead h q).alive=true:=fun q hq=>by
  rcases hs q with e | e
  ·exact ⟨e,by rw [← e];exact hq⟩
  ·rw [e] at hq;cases hq
 exact I.next rfl rfl rfl (Nat.le_refl _) (fun _ _ _=>rfl) (Adv.refl _ _) (fun _ _ hp=>.inl hp) I.publ (fun q hq=>by rw [(hal q hq).1];exact I.own q)
  (fun q b c hq=>I.mine q b c (hal q hq).2) (fun q q' b c c' hq hq'=>I.inj q q' b c c' (hal q hq).2 (hal q' hq').2) (fun _ _=>rfl)
def Qis (E:Env) (kp:List Nat) (hout:List (Nat×OB)) (res:AV) (e:Ending) (w':World):Prop:=∃ v φ' Pub',e=.returned v∧Inv E kp φ' Pub' hout w'∧RA w' Pub' φ' res v
theorem Ev.intro {f:FuncId} {fn:Func} {c:Code} {hin hout:List (Nat×OB)} {args:List AV} {res:AV} (hf:P.funcs[f]? = some fn) (hb:fn.body=some c) {m:Nat} (hm:fn.ntmps=m) (hk:args.length≤m)
  (h:∀ E:Env,AW P E (hin.map (·.1)) m c (bodyPost P fn (Qis E (hin.map (·.1)) hout res)) ⟨JB 0 args,hin⟩):Ev P f hin args hout res:=by
 intro E φ Pub w vs hw hφ I hR;subst hm;refine calls_of_wp hf hb (h E _ w ⟨φ,Pub,I,rfl,?_,?_⟩)
 ·have:=Wf hR
  simp;omega
 ·refine Qhg 0 _ hR (fun j u hj=>?_);have hlt:=(Qy8.1 hj).1;rw [Nat.zero_add,Array.getElem?_append_left (by simpa using hlt)];simpa using hj
theorem To.ret_normal {fn:Func} {R:Ending→World→Prop} (h:To E kp n (bodyPost P fn R) .ret st):To E kp n (bodyPost P fn R) .normal st:=h
def Wp (P:Program) (f:FuncId):Bool :=
 match P.funcs[f]? with
 | some fn=>fn.body.isSome && !(fn.name == "runtime.NumGoroutine")
 | none=>false
theorem Qcn {f:FuncId} (hc:Wp P f=true) (args:Array Value) (w:World):(callFunc f args).run P w=.ok (.enter f args) w:=by
 unfold Wp at hc
 cases hf:P.funcs[f]? with
 | none=>rw [hf] at hc;cases hc
 | some fn =>
  rw [hf] at hc;simp only [Qze,Bool.not_eq_true'] at hc;obtain ⟨h1,h2⟩:=hc;have h3:fn.body.isNone=false:=by cases hb:fn.body <;> simp_all
  have h4:¬ fn.name = "runtime.NumGoroutine" := fun e=>by rw [e] at h2;simp at h2
  have h5:¬ fn.body=none:=fun e=>by rw [e] at h1;cases h1
  simp [callFunc,program,Sem.run,hf,h4,h5]
theorem Qxk {w:World} {Pub:Nat→Nat→Prop} {φ:Qt} {a:Act} (hs:∀ s,RA w Pub φ (look .any st.slots s) (a.tmps.getD s undef)):∀ (l:List Operand),RAs w Pub φ (l.map st.ev) (l.map a.eval)
 | []=>by simp only [Qzg];unfold RAs;rfl
 | x::xs=>by
  rw [Qza,Qza];unfold RAs;exact ⟨_,_,rfl,ZW (h:=st.heap) hs x,Qxk hs xs⟩
def Xn (st:AS) (kp:List Nat):List (Nat×OB)→Bool
 | []=>true
 | (r,_)::h=>st.free kp r && Xn st kp h
mutual
def AV.inH (h:List (Nat×OB)):AV→Bool
 | .p _=>true
 | .agg l=>QpO h l
 | .tup l=>QpO h l
 | .own q _=>(look OB.dead h q).alive
 | .osl q _=>(look OB.dead h q).alive
 | .mref q=>(look OB.dead h q).alive
 | .oss q _ _ _=>(look OB.dead h q).alive
 | .cnd _ x=>AV.inH h x
 | .any=>true
def QpO (h:List (Nat×OB)):List AV→Bool
 | []=>true
 | x::xs=>AV.inH h x && QpO h xs
end
mutual
theorem Qn6 {h:List (Nat×OB)} {r:Nat}:∀ (x:AV),x.inH h=true→x.has r=true→(look OB.dead h r).alive=true
 | .p _,_,hr=>by unfold AV.has at hr;cases hr
 | .agg l,hi,hr=>by unfold AV.has at hr;unfold AV.inH at hi;exact Qco l hi hr
 | .tup l,hi,hr=>by unfold AV.has at hr;unfold AV.inH at hi;exact Qco l hi hr
 | .own q _,hi,hr=>by unfold AV.has at hr;unfold AV.inH at hi;rw [← Qy7 hr];exact hi
 | .osl q _,hi,hr=>by unfold AV.has at hr;unfold AV.inH at hi;rw [← Qy7 hr];exact hi
 | .mref q,hi,hr=>by unfold AV.has at hr;unfold AV.inH at hi;rw [← Qy7 hr];exact hi
 | .oss q _ _ _,hi,hr=>by unfold AV.has at hr;unfold AV.inH at hi;rw [← Qy7 hr];exact hi
 | .cnd _ x,hi,hr=>by unfold AV.has at hr;unfold AV.inH at hi;exact Qn6 x hi hr
 | .any,_,hr=>by unfold AV.has at hr;cases hr
theorem Qco {h:List (Nat×OB)} {r:Nat}:∀ (l:List AV),QpO h l=true→XO r l=true→(look OB.dead h r).alive=true
 | [],_,hr=>by unfold XO at hr;cases hr
 | x::xs,hi,hr=>by
  unfold XO at hr;unfold QpO at hi;simp only [Bool.or_eq_true,Qze] at hr hi;rcases hr with hr | hr
  ·exact Qn6 x hi.1 hr
  ·exact Qco xs hi.2 hr
end
def Zk (h:List (Nat×OB)):List (Nat×OB)→Bool
 | []=>true
 | (_,.box cells _)::r=>QpO h cells && Zk h r
 | (_,.row ..)::r=>Zk h r
 | (_,.obj _)::r=>Zk h r
 | (_,.it m _ _ _)::r=>(look OB.dead h m).alive && Zk h r
 | (_,.ra _ _ _ ns)::r=>(ns.all fun q=>(look OB.dead h q).alive) && Zk h r
 | (_,.dead)::_=>false
end
end
end Go.Proofs.YtcebndkiagbddaaGreatDoor
