/- A part of the proof: contracts of functions and what they stand on. Written shorter and merged by a program (pack.py). -/
import Derived.IntWalk
import Derived.Laws.BitsAllLaws
import Derived.ChangeKeysEq
import Derived.Test.YtcebndkiagbddaaGreatDoorK4
set_option linter.unusedVariables false
set_option linter.unusedSimpArgs false
set_option maxRecDepth 100000
set_option maxHeartbeats 4000000
open List renaming range -> Qxo, length_append -> Qxp, flatMap_append -> Qxt, getElem?_take -> Qxv, getElem?_eq_some_iff -> Qxw, range_succ -> Qxz, take_of_length_le -> QxB, map_cons -> QxC
open Array renaming length_toList -> Qxq
open Nat renaming beq -> Qxr, mul_le_mul_right -> Qxs, blt -> Qxu, zero_add -> Qxx, le_refl -> QxA, succ_mul -> QxD, add_mul -> QxE
open Bool renaming and_eq_true -> Qxy
namespace Go.Proofs.YtcebndkiagbddaaGreatDoor
section
open Go.RowKit
open Go.ChangeMaps (setBlock)
abbrev Q7:=List ((UInt32×Int)×List UInt8)
def nmV (k:UInt32×Int):Value:=.agg #[.int .u32 (k.1.toNat:Int),.int .i64 k.2]
def Xg (i:Nat):Q7->List MapEntry
 | []=>[]
 | e::es=>{ key:=nmV e.1,val:=.string ⟨⟨e.2⟩⟩,born:=i }::Xg (i+1) es
def QlN (es:Q7):Obj:=.map (Xg 0 es).toArray es.length
theorem QeZ:∀ (es:Q7) (i:Nat),(Xg i es).length=es.length
 | [],_=>rfl
 | e::es,i=>by simp [Xg,QeZ es]
theorem Qbp:∀ (es:Q7) (i j:Nat),(Xg i es)[j]? = es[j]?.map fun e=>{ key:=nmV e.1,val:=.string ⟨⟨e.2⟩⟩,born:=i+j }
 | [],_,_=>rfl
 | e::es,i,0=>rfl
 | e::es,i,j+1=>by
  simp only [Xg,List.getElem?_cons_succ];rw [Qbp es (i+1) j,show i+1+j=i+(j+1) from by omega]
def QbY (k:UInt32×Int):Q7->Option (Nat×List UInt8)
 | []=>none
 | e::es=>if k=e.1 then some (0,e.2) else (QbY k es).map fun p=>(p.1+1,p.2)
def mpVal (k:UInt32×Int) (es:Q7):List UInt8:=match QbY k es with
 | some p=>p.2
 | none=>[]
def Qar (k:UInt32×Int) (v:List UInt8) (es:Q7):Q7:=match QbY k es with
 | some p=>es.set p.1 (k,v)
 | none=>es++[(k,v)]
structure MapT (P:Program) (T K V:TypeId):Prop where
 u:P.underlying T=some (.map K V)
 fl:Xd P 20 K=some [.i .u32,.i .i64]
 ag:Q4 P K=some true
 wide:(match P.underlying K with | some (.array _ _) | some (.struct _)=>true | _=>false)=true
 ck:∀ (e:Bool) (k:UInt32×Int) (w:World),(Instr.checkKey e 10000 K (nmV k)).run P w=.ok () w
 zv:∀ w:World,(zeroValue V).run P w=.ok (.string ⟨⟨[]⟩⟩) w
section
variable {P:Program} {T K V:TypeId} {w:World}
end
section
variable {E:Env} {kp:List Nat} {φ:Qi} {Pub:Nat->Nat->Prop} {h:List (Nat×OB)} {w:World}
theorem ZR (w:World) (b:Nat) (o:Obj) (k:Nat) (hk:k≠b):(setBlock w b o).heap[k]? = w.heap[k]?:=by
 show (w.heap.setIfInBounds b o)[k]? = _;simp [Ne.symm hk]
theorem Qbq {w:World} {b:Nat} {o:Obj} (hb:b < w.heap.size):(setBlock w b o).heap[b]? = some o:=by
 show (w.heap.setIfInBounds b o)[b]? = _;simp [hb]
theorem QbZ (w:World) (b:Nat) (o:Obj):(setBlock w b o).heap.size=w.heap.size:=by
 show (w.heap.setIfInBounds b o).size=_;simp
theorem Qas (w:World) (b:Nat) (o:Obj) (k i:Nat) (hk:k≠b):(setBlock w b o).cell? ⟨k,i,none⟩=w.cell? ⟨k,i,none⟩:=by
 simp only [World.cell?,ZR w b o k hk]
theorem Qdk {b:Nat} {o:Obj} (hp:∀ i,¬ Pub b i):Adv w Pub (setBlock w b o) Pub:=fun k i hk =>
 ⟨hk,Qas w b o k i (fun e=>hp i (e ▸ hk))⟩
theorem Inv.setBlk (I:Inv E kp φ Pub h w) {r b c:Nat} {o':Obj} {ob:OB} (ha:(look OB.dead h r).alive=true) (hr:φ r=some (b,c)) (hp:∀ i,¬ Pub b i) (hob:Hp (setBlock w b o') Pub φ r ob) :
  Inv E kp φ Pub ((r,ob)::h) (setBlock w b o'):=by
 have H:=Qdk (w:=w) (o:=o') hp;have hm:=I.mine r b c ha hr
 refine I.next rfl rfl rfl (by rw [QbZ];exact QxA _) (fun k hk hA=>ZR w b o' k (fun e=>by
   subst e;rcases hm with hm | hm
   ·omega
   ·exact hA hm)) H (fun _ _ hp=>.inl hp) (fun k i hk=>by rw [QbZ];exact I.publ k i hk) (fun q hq=>?_) (fun q k c' hq hk=>?_) (fun q q' k c1 c2 hq hq' hk hk'=>?_) (fun _ _=>rfl)
 ·rw [Qb] at hq ⊢;split
  ·next e=>subst e;exact hob
  ·next e =>
   rw [if_neg e] at hq;refine ZO H (fun k c' hk=>⟨ZR w b o' k (fun e2=>?_),fun i hi=>hi⟩) rfl (fun _ _=>rfl) (I.own q);subst e2;exact e (I.inj r q _ _ _ ha hq hr hk)
 ·rw [Qb] at hq;by_cases e:r=q
  ·subst e;exact I.mine r k c' ha hk
  ·rw [if_neg e] at hq;exact I.mine q k c' hq hk
 ·have hx:∀ z,(look OB.dead ((r,ob)::h) z).alive=true->(look OB.dead h z).alive=true:=fun z hz=>by
   rw [Qb] at hz;by_cases e:r=z
   ·subst e;exact ha
   ·rw [if_neg e] at hz;exact hz
  exact I.inj q q' k c1 c2 (hx q hq) (hx q' hq') hk hk'
end
section
variable {P:Program} {E:Env} {kp:List Nat} {n:Nat} {ops:Array Oper} {st:AS} {d:Nat} {ty:TypeId} {ps:String} {af:Array Edge} {T K V:TypeId}
abbrev Qj4 (es:Q7):OB:=.obj (fun o=>o=QlN es)
abbrev nmA (k:UInt32×Int):AV:=.agg [.p (.v (.int .u32 (k.1.toNat:Int))),.p (.v (.int .i64 k.2))]
theorem Qvv {w:World} {Pub:Nat->Nat->Prop} {φ:Qi} {k:UInt32×Int} {u:Value} (h:RA w Pub φ (nmA k) u):u=nmV k:=by
 unfold RA at h;obtain ⟨vs,e,h⟩:=h;unfold RAs at h;obtain ⟨u0,us,rfl,h0,h⟩:=h;unfold RAs at h;obtain ⟨u1,us,rfl,h1,h⟩:=h;unfold RAs at h;subst h;unfold RA RP at h0 h1;subst h0 h1;exact e
theorem nmA_V {w:World} {Pub:Nat->Nat->Prop} {φ:Qi} (k:UInt32×Int):RA w Pub φ (nmA k) (nmV k):=by
 unfold RA;refine ⟨_,rfl,?_⟩;unfold RAs;refine ⟨_,_,rfl,by unfold RA RP;rfl,?_⟩;unfold RAs;refine ⟨_,_,rfl,by unfold RA RP;rfl,?_⟩;unfold RAs;rfl
theorem QvW {w:World} {Pub:Nat->Nat->Prop} {φ:Qi} {r:Nat} {es:Q7} {u:Value} (I:Inv E kp φ Pub st.heap w) (hl:st.ob r=Qj4 es) (hu:RA w Pub φ (.mref r) u) :
  ∃ b,φ r=some (b,1)/\u=.map (some b)/\w.heap[b]? = some (QlN es) /\ ∀ i,¬ Pub b i:=by
 unfold RA at hu;obtain ⟨b,h1,h2⟩:=hu;have k:=I.own r;rw [show look OB.dead st.heap r=Qj4 es from hl] at k;obtain ⟨b',o,k1,k2,k3,k4⟩:=k;rw [h1] at k1;cases k1;exact ⟨b,h1,h2,by rw [k2,k3],k4⟩
theorem Qpr (hu:P.underlying T=some (.map K V)) {m:Operand} {r:Nat} {es:Q7} (hm:Gv (st.ev m) (.mref r)) (hl:st.ob r=Qj4 es) (hd:Qxu d n=true) :
  Qd P E kp n ops ⟨some d,.call { callee:=.builtin .len,args:=#[m],argTypes:=#[T] },ty,ps,af,none⟩ st (st.put d (.p (.v (.int .i64 (es.length:Int))))) :=
 Qw _ rfl rfl hd fun a w φ Pub I hR=>by
  obtain ⟨b,e1,e2,e3,e4⟩:=QvW I hl (hm _ _ _ _ (hR m));refine ⟨.int .i64 (es.length:Int),?_,by unfold RA RP;rfl⟩;unfold QlN at e3;have e6:(Xg 0 es).length=es.length:=QeZ es 0;simp [execOp,resolve,invoke,builtin,Builtin.len_,run_underlying hu,e2,getObj,Sem.run,e3,Result.andThen,goInt,Sem.run_bind,e6]
theorem it_at {w:World} {Pub:Nat->Nat->Prop} {φ:Qi} {r q since last:Nat} {seen:Array Nat} {es:Q7} {u:Value} (I:Inv E kp φ Pub st.heap w) (hl:st.ob r=.it q since seen last) (hq:st.ob q=Qj4 es) (hu:RA w Pub φ (.own r 0) u) :
  ∃ b bm,φ r=some (b,1)/\u=.pointer (some ⟨b,0,none⟩)/\w.heap[b]? = some (.mapIter (some bm) since seen last)/\φ q=some (bm,1)/\w.heap[bm]? = some (QlN es) /\ ∀ i,¬ Pub b i:=by
 unfold RA at hu;obtain ⟨b,c,h1,h2⟩:=hu;have k:=I.own r;rw [show look OB.dead st.heap r=.it q since seen last from hl] at k;obtain ⟨b',bm,k1,k0,k2,k4⟩:=k;rw [h1] at k1;cases k1;have kq:=I.own q;rw [show look OB.dead st.heap q=Qj4 es from hq] at kq;obtain ⟨bm',o,j1,j2,j3,j4⟩:=kq;rw [k0] at j1;cases j1;exact ⟨b,bm,h1,h2,k2,k0,by rw [j2,j3],k4⟩
theorem AO.next {Q:Exit->Act->World->Prop} {x:Operand} {r q:Nat} {s:List Nat} {es:Q7} {rest:List Oper} (hx:Gv (st.ev x) (.own r 0)) (hl:st.ob r=.it q es.length s.reverse.toArray es.length) (hq:st.ob q=Qj4 es) (hd:Qxu d n=true)
  (h1:∀ i,i < es.length->i ∉ s->AO P E kp n ops Q rest ⟨(d,.tup [.p (.v (.bool true)),.any,.any])::st.slots,(r,.it q es.length (i::s).reverse.toArray es.length)::st.heap⟩)
  (h2:(∀ i,i < es.length->i∈s)->AO P E kp n ops Q rest (st.put d (.tup [.p (.v (.bool false))]))) :
  AO P E kp n ops Q (⟨some d,.next x false,ty,ps,af,none⟩::rest) st:=by
 rintro a w ⟨φ,Pub,I,h0,hn,hsl⟩;obtain ⟨b,bm,e1,e2,e3,e4,e5,e6⟩:=it_at I hl hq (hx _ _ _ _ (Za (h:=st.heap) hsl x))
 have hmem:∀ y∈(Xg 0 es).toArray.toList,∃ i,i < es.length/\y.born=i:=fun y hy=>by
  obtain ⟨i,hi⟩:=List.getElem?_of_mem hy;have hi':(Xg 0 es)[i]? = some y:=hi;rw [Qbp] at hi'
  cases hz:es[i]? with
  | none=>rw [hz] at hi';cases hi'
  | some z=>rw [hz] at hi';cases hi';exact ⟨i,(Qxw.1 hz).1,by simp⟩
 have hold:∀ y∈(Xg 0 es).toArray.toList,y.born < es.length:=fun y hy=>by obtain ⟨i,h,e⟩:=hmem y hy;omega
 have hnx:=run_next_at (P:=P) w ty b bm es.length es.length s.reverse.toArray (Xg 0 es).toArray es.length e3 e5 hold (QxA _);refine wpList_plain rfl fun K hK=>?_;rcases hnx with ⟨g1,g2⟩ | ⟨e,g1,w1,g2,g3⟩
 ·have hr:(execOp a.eval ⟨some d,.next x false,ty,ps,af,none⟩).run P w=.ok (.value (.tuple #[.bool false])) w:=by simp [execOp,e2,g2]
  unfold Oper.wp;rw [hr];refine hK _ _ (h2 (fun i hi=>?_) _ _ (Sat.put I h0 hn hsl hd ?_))
  ·cases hz:es[i]? with
   | none=>rw [List.getElem?_eq_getElem hi] at hz;cases hz
   | some z =>
    have hge:(Xg 0 es)[i]? = some { key:=nmV z.1,val:=.string ⟨⟨z.2⟩⟩,born:=i }:=by rw [Qbp,hz];simp
    have hm:=List.mem_of_getElem? hge
    have hno:∀ y∈(Xg 0 es).toArray,s.reverse.toArray.contains y.born=true:=by
     intro y hy;have h3:=Array.size_eq_zero_iff.1 g1;unfold leftOf at h3;rw [Array.filter_eq_empty_iff] at h3;have:=h3 y hy;simpa using this
    have:=hno _ (by simpa using hm);simpa using this
  ·unfold RA;refine ⟨_,rfl,?_⟩;unfold RAs;refine ⟨_,_,rfl,by unfold RA RP;rfl,?_⟩;unfold RAs;rfl
 ·have hr:(execOp a.eval ⟨some d,.next x false,ty,ps,af,none⟩).run P w=.ok (.value (.tuple #[.bool true,e.key,e.val])) (setBlock w1 b (.mapIter (some bm) es.length (s.reverse.toArray.push e.born) es.length)):=by simp [execOp,e2,g3]
  unfold Oper.wp;rw [hr]
  have hme:e∈(Xg 0 es).toArray.toList/\s.reverse.toArray.contains e.born=false:=by
   unfold leftOf at g1;simpa using g1
  obtain ⟨i,hi,hb⟩:=hmem e hme.1;have hns:i ∉ s:=by have:=hme.2;rw [hb] at this;simpa using this
  have I1:Inv E kp φ Pub st.heap w1:=by rcases g2 with rfl | rfl;exact I;exact I.drew
  have H1:Adv w Pub w1 Pub:=by rcases g2 with rfl | rfl;exact Adv.refl _ _;exact XB
  have hb1:w1.heap[b]? = some (.mapIter (some bm) es.length s.reverse.toArray es.length):=by rcases g2 with rfl | rfl <;> exact e3
  have hlt:b < w1.heap.size:=(Array.getElem?_eq_some_iff.1 hb1).1;have hpush:s.reverse.toArray.push e.born=(i::s).reverse.toArray:=by rw [hb];simp
  rw [hpush];have I2:=I1.setBlk (o':=.mapIter (some bm) es.length (i::s).reverse.toArray es.length) (ob:=.it q es.length (i::s).reverse.toArray es.length) (by rw [show look OB.dead st.heap r=_ from hl];rfl) e1 e6 ⟨b,bm,e1,e4,Qbq hlt,e6⟩;refine hK _ _ (h1 i hi hns _ _ (Sat.put I2 h0 hn (fun z=>QF (H1.trans (Qdk e6)) _ _ (fun _ _=>rfl) (hsl z)) hd ?_));unfold RA;refine ⟨_,rfl,?_⟩;unfold RAs;refine ⟨_,_,rfl,by unfold RA RP;rfl,?_⟩;unfold RAs;refine ⟨_,_,rfl,by unfold RA;trivial,?_⟩;unfold RAs;refine ⟨_,_,rfl,by unfold RA;trivial,?_⟩;unfold RAs;rfl
end
end
section
open Go.RowKit
section
variable {P:Program} {E:Env} {kp:List Nat} {n:Nat} {ops:Array Oper} {st st':AS} {d:Nat} {ty:TypeId} {ps:String} {af:Array Edge}
theorem Jg {φ:Qi} {ns:List Nat} {j q:Nat} (h:ns[j]? = some q):loc φ ns j=φ q:=by unfold loc;rw [h]
section
variable {φ:Qi} {Pub:Nat->Nat->Prop} {h:List (Nat×OB)} {w:World}
theorem VP (I:Inv E kp φ Pub h w) {r b c sz:Nat} {cells:List AV} {t:TypeId} {ns:List Nat} (hl:look OB.dead h r=.ra cells t sz ns) (hr:φ r=some (b,c)) :
  ∃ vs:List Value,RAs w Pub (loc φ ns) cells vs/\(∀ u∈vs,u.oneCell'=true) /\ ∀ j u,vs[j]? = some u->w.cell? ⟨b,j,none⟩=some u:=by
 have k:=I.own r;rw [hl] at k;rcases k with ⟨k0,_⟩ | ⟨b',c',cur,fr,k1,⟨k2,k2'⟩,k3,k4,k5,k6,k7,k8⟩
 ·rw [hr] at k0;cases k0
 rw [hr] at k1;cases k1;refine ⟨_,k6,k7,fun j u hj=>?_⟩;rw [cell_of_row w b j cur t fr k2];rw [Qxv] at hj;split at hj
 ·simpa using hj
 ·cases hj
end
section
variable {T:TypeId} {x:Operand} (hd:Qxu d n=true)
include hd
theorem Qps {r off sz:Nat} {cells:List AV} {t:TypeId} {ns:List Nat} {v y:AV} (hx:Gv (st.ev x) (.own r off)) (hT:Q4 P T=some false) (hl:st.ob r=.ra cells t sz ns) (hv:cells[off]? = some v)
  (hy:∀ (w:World) (Pub:Nat->Nat->Prop) (φ:Qi) (u:Value),RA w Pub (loc φ ns) v u->RA w Pub φ y u):Qd P E kp n ops ⟨some d,.load T x,ty,ps,af,none⟩ st (st.put d y) :=
 Qw _ rfl rfl hd fun a w φ Pub I hR=>by
  have h:=hx _ _ _ _ (hR x);unfold RA at h;obtain ⟨b,c,e0,e⟩:=h;obtain ⟨vs,c1,c2,c3⟩:=VP I hl e0;obtain ⟨u,hu,hRv⟩:=X7 c1 hv;refine ⟨u,?_,hy _ _ _ _ hRv⟩;simp only [execOp,e];rw [Sem.run_bind,XC hT (c3 off u hu)];rfl
theorem Qnu {r off s sz:Nat} {cells:List AV} {t:TypeId} {ns:List Nat} {l l':List AV} (hx:Gv (st.ev x) (.own r off)) (hT:Q4 P T=some true) (hs:Zh P T=some s) (hl:st.ob r=.ra cells t sz ns)
  (hv:(cells.drop off).take s=l) (hlen:l.length=s) (hy:∀ (w:World) (Pub:Nat->Nat->Prop) (φ:Qi) (us:List Value),RAs w Pub (loc φ ns) l us->RAs w Pub φ l' us) :
  Qd P E kp n ops ⟨some d,.load T x,ty,ps,af,none⟩ st (st.put d (.agg l')) :=
 Qw _ rfl rfl hd fun a w φ Pub I hR=>by
  have h:=hx _ _ _ _ (hR x);unfold RA at h;obtain ⟨b,c,e0,e⟩:=h;obtain ⟨vs,c1,c2,c3⟩:=VP I hl e0;have c4:=VD s (VC off c1);rw [hv] at c4;refine ⟨_,?_,by unfold RA;exact ⟨_,rfl,hy _ _ _ _ c4⟩⟩;simp only [execOp,e]
  rw [Sem.run_bind,XD hT hs (by rw [QU c4];exact hlen) (fun j v hj=>by
   rw [Qxv] at hj;split at hj
   ·rw [List.getElem?_drop] at hj;exact c3 _ _ hj
   ·cases hj)];rfl
end
theorem Inv.storeRa {φ:Qi} {Pub:Nat->Nat->Prop} {h:List (Nat×OB)} {w:World} (I:Inv E kp φ Pub h w) {r b c o sz:Nat} {t:TypeId} {cells cells':List AV} {ns ns':List Nat} {us:List Value} (hl:look OB.dead h r=.ra cells t sz ns) (hr:φ r=some (b,c))
  (hlen:cells'.length=cells.length) (h1:∀ u∈us,u.oneCell'=true) (hin:o+us.length<=cells.length) (hcell:∀ vs,RAs w Pub (loc φ ns) cells vs->RAs w Pub (loc φ ns') cells' (Qs vs o us)) :
  Inv E kp φ Pub ((r,.ra cells' t sz ns')::h) (w.setCells b o us)/\Adv w Pub (w.setCells b o us) Pub:=by
 have k:=I.own r;rw [hl] at k;rcases k with ⟨k0,_⟩ | ⟨b',c',cur,fr,k1,⟨k2,k2'⟩,k3,k4,k5,k6,k7,k8⟩
 ·rw [hr] at k0;cases k0
 rw [hr] at k1;cases k1;have hnp:∀ i,i < us.length->¬ Pub b (o+i):=fun i _=>k8 _;have H:Adv w Pub (w.setCells b o us) Pub:=ZP hnp;obtain ⟨cur',c1,c2,c3⟩:=QC b us o w cur t _ k2;rw [ZF] at c3;refine ⟨I.store (by rw [hl];rfl) hr hnp rfl (.inr ⟨b,c,cur',fr,hr,⟨c1,by rw [c2];exact k2'⟩,k3,by rw [c2];exact k4,by rw [hlen,c2];exact k5,?_,?_,k8⟩),H⟩
 ·rw [c3,hlen,XA _ _ _ _ (by omega)];exact WR H _ _ (fun _ _=>rfl) (hcell _ k6)
 ·intro u hu;rw [c3,hlen,XA _ _ _ _ (by omega)] at hu;rcases Qae us o _ hu with hu | hu
  ·exact k7 u hu
  ·exact h1 u hu
theorem Qe0 {T:TypeId} {x y:Operand} {r off s sz:Nat} {cells cells':List AV} {ns ns':List Nat} {t:TypeId} {v:AV} (hx:Gv (st.ev x) (.own r off)) (hy:Gv (st.ev y) v) (hs:Zh P T=some s) (hl:st.ob r=.ra cells t sz ns)
  (h1:WZ v.cs=true) (hlen:v.cs.length=s) (hlen':cells'.length=cells.length) (hin:off+s<=cells.length)
  (hcell:∀ (w:World) (Pub:Nat->Nat->Prop) (φ:Qi) (vs us:List Value),RAs w Pub (loc φ ns) cells vs->RAs w Pub φ v.cs us->RAs w Pub (loc φ ns') cells' (Qs vs off us)) :
  Qd P E kp n ops ⟨none,.store T x y,ty,ps,af,none⟩ st (st.set r (.ra cells' t sz ns')):=by
 refine Qd.skip rfl fun a w ⟨φ,Pub,I,h0,hn,hsl⟩=>?_;have h:=hx _ _ _ _ (Za (h:=st.heap) hsl x);unfold RA at h;obtain ⟨b,c,e0,e⟩:=h;obtain ⟨c1,c2⟩:=Qpc h1 (hy _ _ _ _ (Za (h:=st.heap) hsl y));have hul:=QU c1;have k:=I.own r;have hl':look OB.dead st.heap r=.ra cells t sz ns:=hl;rw [hl'] at k;rcases k with ⟨k0,_⟩ | ⟨b',c',cur,fr,k1,⟨k2,k2'⟩,k3,k4,k5,k6,k7,k8⟩
 ·rw [e0] at k0;cases k0
 rw [e0] at k1;cases k1;obtain ⟨I',H⟩:=I.storeRa (ns':=ns') (cells':=cells') hl' e0 hlen' c2 (by rw [hul,hlen];exact hin) (fun vs hv=>hcell _ _ _ _ _ hv c1);refine ⟨w.setCells b off (a.eval y).cells.toList,?_,φ,Pub,I',h0,hn,fun q=>QF H _ _ (fun _ _=>rfl) (hsl q)⟩;simp only [execOp,e];rw [Sem.run_bind,JP hs k2 k2' (by rw [hul];exact hlen) (by omega) c2];rfl
theorem Qs2 {φ:Qi} {Pub:Nat->Nat->Prop} {w:World} {a:Act} (I:Inv E kp φ Pub st.heap w) (h0:a.defers=[]) (hn:a.tmps.size=n) (hsl:∀ s,RA w Pub φ (look .any st.slots s) (a.tmps.getD s undef)) {r sz m c:Nat} {cur:Array Value} {e:TypeId} {cells:List AV} {ns:List Nat}
  (hf:st.free kp r=true) (hns:ns.contains r=false) (hd:Qxu d n=true) (hsz:cur.size=c * sz) (hle:cells.length<=cur.size) (hR:RAs w Pub (loc φ ns) cells (cur.toList.take cells.length)) (h1:∀ u∈cur.toList.take cells.length,u.oneCell'=true) (hc:c<=maxLen) (hm:m<=c) :
  Sat E kp n ⟨(d,.osl r m)::st.slots,(r,.ra cells e sz ns)::st.heap⟩ (a.put (some d) (.slice (some ⟨w.heap.size,0,none⟩) m c)) (w.alloc (.cells cur e)):=by
 obtain ⟨f1,f2,f3,f4⟩:=Qu hf;have hl:loc (fun q=>if q=r then some (w.heap.size,c) else φ q) ns=loc φ ns:=QjL fun q hq=>if_neg fun e=>by subst e;rw [hns] at hq;cases hq
 have I':=I.alloc f1 f2 f4 (.cells cur e) c (ob:=.ra cells e sz ns) (.inr ⟨w.heap.size,c,cur,(0,0),if_pos rfl,⟨heap_alloc_new w _,.inl rfl⟩,hc,hsz,hle,by rw [hl];exact WR (ZI I _) _ _ (fun _ _=>rfl) hR,h1,fun i hp=>by have:=I.publ _ _ hp;omega⟩);exact Sat.put I' h0 hn (fun s=>Qad I (Wf f3) c (hsl s)) hd (by unfold RA;exact .inl ⟨_,_,if_pos rfl,rfl,hm⟩)
theorem Qnv {T e:TypeId} {parts:List (Nat×Operand)} {sz bytes len:Nat} {z:List Value} {out qs:List AV} {ns:List Nat} (r:Nat) (hpos:0 < len) (hT:Qbh P T=some (e,sz,bytes,z)) (hsz:0 < sz) (h1:z.all (·.oneCell')=true) (hlen:Nat.ble (len * sz) 1000000=true)
  (hf:Y8 ((Qxo len).map fun i=>(i * sz,sz)) (Qcg (Wj z len)) (parts.map fun p=>(p.1,st.ev p.2))=some out) (hone:WZ out=true) (hq:∀ (w:World) (Pub:Nat->Nat->Prop) (φ:Qi) (us:List Value),RAs w Pub φ out us->RAs w Pub (loc φ ns) qs us) (hql:qs.length=len * sz) (hol:out.length=qs.length)
  (hfr:st.free kp r=true) (hns:ns.contains r=false) (hd:Qxu d n=true) :
  Qd P E kp n ops ⟨some d,.buildSlice T len parts.toArray,ty,ps,af,none⟩ st ⟨(d,.osl r len)::st.slots,(r,.ra qs e sz ns)::st.heap⟩:=by
 refine Qd.val rfl fun a w ⟨φ,Pub,I,h0,hn,hsl⟩=>?_;have hlen:=Nat.le_of_ble_eq_true hlen;obtain ⟨i,v,t1,t2,t3,t4,t5,t6,t7⟩:=XG hT;have hzv:(zeroValue e).run P w=.ok v w:=by simp [zeroValue,typeInfo,t2,t3]
 have hso:(sizeOf e).run P w=.ok sz w:=Qp (by unfold Zh;rw [t2];simp [t4]) w;have hR:∀ y,RA w Pub φ (st.ev y) (a.eval y):=Za hsl;have hvz:v.cells.size=sz:=t6
 obtain ⟨cur',k1,k2⟩:=QcZ (w:=w) (Pub:=Pub) (φ:=φ) (place:=fun i=>some (i * sz,sz)) (a:=a) (fun i os hos=>by
   rw [List.getElem?_map] at hos
   cases hr:(Qxo len)[i]? with
   | none=>rw [hr] at hos;cases hos
   | some j =>
    rw [hr] at hos;have:j=i:=by rw [Qxw] at hr;obtain ⟨_,h⟩:=hr;simpa using h.symm
    subst this;simpa using hos) (us:=parts.map fun p=>(p.1,a.eval p.2)) (cur:=(Array.range (len * sz)).map (v.cells[· % v.cells.size]!)) hf (by
   have:=Qc4 v.cells (by omega) len;rw [t6,t7] at this;rw [t6,this]
   exact XE _) (by simp) (fun j i x hj=>by
   rw [List.getElem?_map] at hj ⊢
   cases hq:parts[j]? with
   | none=>rw [hq] at hj;cases hj
   | some p =>
    rw [hq] at hj;simp only [Option.map_some,Option.some.injEq,Prod.mk.injEq] at hj;obtain ⟨rfl,rfl⟩:=hj
    exact ⟨a.eval p.2,rfl,hR p.2⟩)
 have hcl:=QU k2;rw [Qxq] at hcl;have k3:=hq _ _ _ _ k2;refine ⟨.slice (some ⟨w.heap.size,0,none⟩) len len,w.alloc (.cells cur' e),?_,Qs2 (st:=st) I h0 hn hsl hfr hns hd (by rw [hcl,hol,hql]) (by omega) ?_ ?_ (by unfold maxLen;have:len<=len * sz:=Nat.le_mul_of_pos_right _ hsz;omega) (QxA _)⟩
 ·have hz:¬ (len * sz > 2 ^ 24):=by omega
  have e2:(parts.toArray.map fun (p:Nat×Operand)=>(p.1,a.eval p.2)).toList=parts.map fun p=>(p.1,a.eval p.2):=by simp
  simp only [execOp];rw [Sem.run_bind];unfold Instr.buildSlice;simp only [Sem.run_bind,run_underlying t1,Result.andThen_ok,hso,if_neg hz];have h00:¬ len * sz=0:=by have:=Nat.mul_pos hpos hsz;omega
  simp only [if_neg h00,Sem.run_bind,hzv,Result.andThen_ok,Sem.run_pure];rw [e2,k1];simp [newRow,newObj,Sem.run]
 ·rw [QxB (by rw [Qxq];omega)];exact k3
 ·rw [QxB (by rw [Qxq];omega)];exact VE hone k2
theorem Qnw (q:Nat) (t:TypeId) (sz:Nat) (hf:st.free kp q=true):Wk E kp n st ⟨st.slots,(q,.row [] t sz 0)::st.heap⟩:=by
 rintro a w ⟨φ,Pub,I,h0,hn,hsl⟩;obtain ⟨f1,f2,f3,f4⟩:=Qu hf;exact ⟨_,Pub,I.nilRow f1 f2 f4 t sz 0,h0,hn,fun s=>Z6 (Adv.refl _ _) (Wf f3) (hsl s)⟩
theorem Inv.appendRa {φ:Qi} {Pub:Nat->Nat->Prop} {h:List (Nat×OB)} {w:World} (I:Inv E kp φ Pub h w) {r r' n sz:Nat} {e:TypeId} {cells news:List AV} {ns ns':List Nat} {u:Value} (hl:look OB.dead h r=.ra cells e sz ns) (hu:RA w Pub φ (.osl r n) u) (hn:n * sz=cells.length)
  (hf:(look OB.dead h r').alive=false) (hh:WF r' h=false) (hk:r' ∉ kp) (hns:ns'.contains r'=false) (hcell:∀ vs,RAs w Pub (loc φ ns) cells vs->RAs w Pub (loc φ ns') cells vs)
  (t ty:TypeId) (i:TypeInfo) (z:Value) (bytes:Nat) (ht:P.underlying t=some (.slice e)) (hi:P.info? e=some i) (hz:i.zero=some z) (hsize:i.size=sz) (hby:i.bytes=bytes) (hzs:z.cells.size=sz) (hsz:0 < sz)
  (ad:Addr) (m c:Nat) (vs:List Value) (hm:0 < m) (hv:RAs w Pub (loc φ ns') news vs) (hvl:vs.length=m * sz) (hv1:∀ u∈vs,u.oneCell'=true) (hvc:∀ j u,vs[j]? = some u->w.cell? (ad.add j)=some u) (h63:n+m<=maxLen) (hbytes:(n+m) * bytes<=140737488355328) :
  ∃ v' w' g,(Builtin.append_ #[t,t] ty #[u,.slice (some ad) m c]).run P w=.ok v' w'/\Inv E kp (fun q=>if q=r' then g else φ q) Pub ((r',.ra (cells++news) e sz ns')::(r,.dead)::h) w' /\
   RA w' Pub (fun q=>if q=r' then g else φ q) (.osl r' (n+m)) v'/\Adv w Pub w' Pub:=by
 subst hsize;subst hby;have ha:(look OB.dead h r).alive=true:=by rw [hl];rfl
 have hne:r≠r':=fun e=>by subst e;rw [ha] at hf;cases hf
 have hfd:(look OB.dead ((r,OB.dead)::h) r').alive=false:=by rw [Qb,if_neg hne];exact hf
 have hhd:WF r' ((r,OB.dead)::h)=false:=by simp only [WF,OB.has,hh];rfl
 have hsmall:n+m<=9223372036854775807:=by simp only [maxLen] at h63;omega
 have hnl:news.length=m * i.size:=by have:=QU hv;omega
 have hloc:∀ g,loc (fun q=>if q=r' then g else φ q) ns'=loc φ ns':=fun g=>QjL fun q hq=>if_neg fun e=>by subst e;rw [hns] at hq;cases hq
 have grow:∀ (xs:List Value) (old:Nat),RAs w Pub (loc φ ns') cells xs->(∀ u∈xs,u.oneCell'=true)->old < n+m ->
   ∃ g,Inv E kp (fun q=>if q=r' then g else φ q) Pub ((r',.ra (cells++news) e i.size ns')::(r,.dead)::h) (w.drew.alloc (.cells (xs.toArray++vs.toArray++Builtin.zeroCells z.cells (grownCap w (n+m) old e - (n+m))) e)) /\
   RA (w.drew.alloc (.cells (xs.toArray++vs.toArray++Builtin.zeroCells z.cells (grownCap w (n+m) old e - (n+m))) e)) Pub (fun q=>if q=r' then g else φ q) (.osl r' (n+m)) (.slice (some ⟨w.heap.size,0,none⟩) (n+m) (grownCap w (n+m) old e)) /\
   Adv w Pub (w.drew.alloc (.cells (xs.toArray++vs.toArray++Builtin.zeroCells z.cells (grownCap w (n+m) old e - (n+m))) e)) Pub:=by
  intro xs old hx h1 ho;have hge:=grownCap_ge w (n+m) old e;have hcm:grownCap w (n+m) old e<=maxLen:=grownCap_le_maxLen w (n+m) old e h63;have hxl:=QU hx;have ID:=(I.drop r).drew
  have hcs:(xs.toArray++vs.toArray++Builtin.zeroCells z.cells (grownCap w (n+m) old e - (n+m))).size=grownCap w (n+m) old e * i.size:=by
   simp only [Array.size_append,List.size_toArray,size_zeroCells,hzs,hxl,<- hn,hvl,<- QxE];congr 1;omega
  have htk:(xs.toArray++vs.toArray++Builtin.zeroCells z.cells (grownCap w (n+m) old e - (n+m))).toList.take (cells++news).length=xs++vs:=by
   simp only [Array.toList_append];rw [show (cells++news).length=(xs++vs).length from by simp only [Qxp];omega];exact List.take_left
  have H:=(XB (w:=w) (Pub:=Pub)).trans (ZI ID (.cells (xs.toArray++vs.toArray++Builtin.zeroCells z.cells (grownCap w (n+m) old e - (n+m))) e));refine ⟨some (w.heap.size,grownCap w (n+m) old e),ID.alloc hfd hhd hk _ (grownCap w (n+m) old e) (.inr ⟨w.heap.size,_,_,(0,0),if_pos rfl,⟨heap_alloc_new w.drew _,.inl rfl⟩,hcm,hcs,?_,?_,?_,fun j hj=>?_⟩),?_,H⟩
  ·rw [hcs,Qxp,<- hn,hnl,<- QxE];exact Qxs _ hge
  ·rw [htk];have:=hloc (some (w.drew.heap.size,grownCap w (n+m) old e));rw [this];exact WR H _ _ (fun _ _=>rfl) (JO hx hv)
  ·rw [htk];intro y hy;rcases List.mem_append.1 hy with hy | hy
   ·exact h1 y hy
   ·exact hv1 y hy
  ·have:=I.publ _ _ hj;exact absurd this (Nat.lt_irrefl _)
  ·unfold RA;exact .inl ⟨w.heap.size,_,if_pos rfl,rfl,hge⟩
 have k:=I.own r;rw [hl] at k;unfold RA at hu;rcases k with ⟨k0,rfl⟩ | ⟨b,cc,cur,fr,k1,⟨k2,k2'⟩,k3,k4,k5,k6,k7,k8⟩
 ·
  have hn0:n=0:=by
   rcases Nat.eq_zero_or_pos n with h0 | h0
   ·exact h0
   ·have:=Nat.mul_pos h0 hsz;simp at hn;omega
  subst hn0
  have hu':u=.slice none 0 0:=by
   rcases hu with ⟨b,c,e1,_⟩ | ⟨_,_,e⟩
   ·rw [k0] at e1;cases e1
   ·exact e
  subst hu';obtain ⟨g,G1,G2,G3⟩:=grow [] 0 (by unfold RAs;rfl) (by simp) (by omega);have hr:=run_append_nil (P:=P) w t ty e i z ht hi hz ad m c vs hvl hvc hm (by omega) (by have hb:=hbytes;simp only [Qxx] at hb;omega);simp only [Qxx,List.nil_append,Array.empty_append] at G1 G2 G3 ⊢;exact ⟨_,_,g,hr,G1,G2,G3⟩
 ·have hu':u=.slice (some ⟨b,0,none⟩) n cc/\n<=cc:=by
   rcases hu with ⟨b',c',e1,e2,e3⟩ | ⟨e1,_,_⟩
   ·rw [k1] at e1;cases e1;exact ⟨e2,e3⟩
   ·rw [k1] at e1;cases e1
  obtain ⟨rfl,hnc⟩:=hu';have k6':=hcell _ k6;have hxl:(cur.toList.take cells.length).length=n * i.size:=by rw [List.length_take,Nat.min_eq_left (by rw [Qxq];exact k5),hn]
  by_cases hroom:n+m<=cc
  ·
   have hfit:n * i.size+vs.length<=cur.size:=by rw [hvl,k4,<- QxE];exact Qxs _ hroom
   have hst:=run_storeCells_cells (P:=P) b (n * i.size) vs 0 w (fun j hj=>by
     rw [cell_of_row w b _ cur e fr k2,Array.getElem?_eq_getElem (by omega)];rfl) (fun j hj=>by
     unfold World.frozen?;simp only [k2];rcases k2' with h0 | h0
     ·subst h0;simp
     ·have:=h0.1;simp;omega) hv1
   have hfc:=run_firstCells_some (P:=P) w i.size m ad m c vs hvl hvc
   have hr:(Builtin.append_ #[t,t] ty #[.slice (some ⟨b,0,none⟩) n cc,.slice (some ad) m c]).run P w=.ok (.slice (some ⟨b,0,none⟩) (n+m) cc) (w.setCells b (n * i.size) vs):=by
    simp only [Nat.add_zero] at hst;simp [Builtin.append_,run_underlying ht,sizeOf,typeInfo,hi,Builtin.lenOf,hroom,hfc,Addr.add_mid,hst]
   obtain ⟨s1,s2,s3⟩:=Ww b vs (n * i.size) w;obtain ⟨cur',c1,c2,c3⟩:=QC b vs (n * i.size) w cur e fr k2;rw [ZF] at c3
   have htk:cur'.toList.take (cells++news).length=cur.toList.take cells.length++vs:=by
    rw [c3,hn];have hle:cells.length+vs.length<=cur.toList.length:=by have:=Qxq (xs:=cur);omega
    rw [show (cells++news).length=cells.length+vs.length from by rw [Qxp];omega];exact Yo vs cells.length cur.toList hle
   have H:Adv w Pub (w.setCells b (n * i.size) vs) Pub:=ZP fun j _=>k8 _;have hm':=I.mine r b cc ha k1;have hother:∀ k,k≠b->(w.setCells b (n * i.size) vs).heap[k]? = w.heap[k]?:=fun k hk=>QR b vs _ w k hk
   have hal:∀ q,(look OB.dead ((r',OB.ra (cells++news) e i.size ns')::(r,.dead)::h) q).alive=true->q=r'\/(q≠r'/\q≠r/\(look OB.dead h q).alive=true):=fun q hq=>by
    rw [Qb] at hq;by_cases e:r'=q
    ·exact .inl e.symm
    ·rw [if_neg e,Qb] at hq;by_cases e2:r=q
     ·rw [if_pos e2] at hq;cases hq
     ·rw [if_neg e2] at hq;exact .inr ⟨Ne.symm e,Ne.symm e2,hq⟩
   refine ⟨_,_,some (b,cc),hr,?_,by unfold RA;exact .inl ⟨b,cc,if_pos rfl,rfl,hroom⟩,H⟩
   refine I.next s1 s2 s3 (by rw [Wt];exact QxA _) (fun k hk hA=>hother k (fun e=>by
     subst e;rcases hm' with hm' | hm'
     ·omega
     ·exact hA hm')) H (fun _ _ hp=>.inl hp) (fun k i hp=>by rw [Wt];exact I.publ k i hp) (fun q hq=>?_) (fun q k c' hq hk=>?_) (fun q q' k c1 c2 hq hq' hk hk'=>?_) (fun q hq=>?_)
   ·rcases hal q hq with e | ⟨e1,e2,e3⟩
    ·subst e;rw [Qb,if_pos rfl];refine .inr ⟨b,cc,cur',fr,if_pos rfl,⟨c1,by rw [c2];exact k2'⟩,k3,by rw [c2];exact k4,by rw [c2,Qxp];omega,?_,?_,k8⟩
     ·rw [htk,hloc];exact WR H _ _ (fun _ _=>rfl) (JO k6' hv)
     ·rw [htk];intro y hy;rcases List.mem_append.1 hy with hy | hy
      ·exact k7 y hy
      ·exact hv1 y hy
    ·rw [Qb,if_neg (Ne.symm e1),Qb,if_neg (Ne.symm e2)];refine ZO H (fun k c' hk=>⟨hother k (fun e=>?_),fun i hi=>hi⟩) (if_neg e1) (fun x hx=>?_) (I.own q)
     ·subst e;exact e2 (I.inj q r _ _ _ e3 ha hk k1)
     ·have:x≠r':=fun e=>by subst e;rw [YJ hh] at hx;cases hx
      exact if_neg this
   ·rcases hal q hq with e | ⟨e1,e2,e3⟩
    ·rw [if_pos e] at hk;cases hk;exact hm'
    ·rw [if_neg e1] at hk;exact I.mine q k c' e3 hk
   ·rcases hal q hq with e | ⟨e1,e2,e3⟩ <;> rcases hal q' hq' with e' | ⟨e1',e2',e3'⟩
    ·rw [e,e']
    ·rw [if_pos e] at hk;rw [if_neg e1'] at hk';cases hk;exact absurd (I.inj q' r _ _ _ e3' ha hk' k1) e2'
    ·rw [if_pos e'] at hk';rw [if_neg e1] at hk;cases hk';exact absurd (I.inj q r _ _ _ e3 ha hk k1) e2
    ·rw [if_neg e1] at hk;rw [if_neg e1'] at hk';exact I.inj q q' k c1 c2 e3 e3' hk hk'
   ·exact if_neg (fun e=>by subst e;exact hk hq)
  ·
   have holds:∀ j u,(cur.toList.take cells.length)[j]? = some u->w.cell? ((⟨b,0,none⟩:Addr).add j)=some u:=fun j u hj=>by
    rw [Addr.add_mid,Qxx,cell_of_row w b j cur e fr k2];rw [Qxv] at hj;split at hj
    ·simpa using hj
    ·cases hj
   have hr:=run_append_grow (P:=P) w t ty e i z ht hi hz ⟨b,0,none⟩ n cc _ hxl holds ad m c vs hvl hvc (by omega) (by omega) (growslice_fits (by omega) hbytes);obtain ⟨g,G1,G2,G3⟩:=grow _ cc k6' k7 (by omega);exact ⟨_,_,g,hr,G1,G2,G3⟩
theorem Qj5 {T e e2:TypeId} {x y:Operand} {sz bytes r r2 m0 m:Nat} {cells cells2 news:List AV} {ns ns2 ns':List Nat} {z:List Value} (r':Nat) (hd:Qxu d n=true) (hx:Gv (st.ev x) (.osl r m0)) (hl:st.ob r=.ra cells e sz ns) (hn:m0 * sz=cells.length)
  (hy:Gv (st.ev y) (.osl r2 m)) (hl2:st.ob r2=.ra cells2 e2 sz ns2) (hn2:cells2.length=m * sz) (hm0:0 < m) (hT:Qbh P T=some (e,sz,bytes,z)) (hsz:0 < sz) (hb:(m0+m) * bytes<=140737488355328) (hm:m0+m<=140737488355328) (hf:st.free kp r'=true) (hns:ns'.contains r'=false)
  (h1:∀ (w:World) (Pub:Nat->Nat->Prop) (φ:Qi) (vs:List Value),RAs w Pub (loc φ ns) cells vs->RAs w Pub (loc φ ns') cells vs)
  (h2:∀ (w:World) (Pub:Nat->Nat->Prop) (φ:Qi) (vs:List Value),RAs w Pub (loc φ ns2) cells2 vs->RAs w Pub (loc φ ns') news vs) :
  Qd P E kp n ops ⟨some d,.call { callee:=.builtin .append,args:=#[x,y],argTypes:=#[T,T] },ty,ps,af,none⟩ st ⟨(d,.osl r' (m0+m))::st.slots,(r',.ra (cells++news) e sz ns')::(r,.dead)::st.heap⟩:=by
 refine Qd.val rfl fun a w ⟨φ,Pub,I,h0,hnn,hsl⟩=>?_;obtain ⟨f1,f2,f3,f4⟩:=Qu hf;obtain ⟨i,v,t1,t2,t3,t4,t5,t6,t7⟩:=XG hT;have hu2:=hy _ _ _ _ (Za (h:=st.heap) hsl y);unfold RA at hu2;rcases hu2 with ⟨b,c,k1,k2,k3⟩ | ⟨_,k0,_⟩
 ·obtain ⟨vs,c1,c2,c3⟩:=VP I hl2 k1;obtain ⟨v',w',g,hr,I',hR,H⟩:=I.appendRa (P:=P) (ns':=ns') (news:=news) hl (hx _ _ _ _ (Za (h:=st.heap) hsl x)) hn f1 f2 f4 hns (fun vs hv=>h1 _ _ _ _ hv) T ty i v bytes t1 t2 t3 t4 t5 t6 hsz ⟨b,0,none⟩ m c vs hm0 (h2 _ _ _ _ c1) (by rw [QU c1];exact hn2) c2 (fun j u hj=>by rw [Addr.add_mid,Qxx];exact c3 j u hj) (by unfold maxLen;omega) hb;refine ⟨v',w',?_,Sat.put I' h0 hnn (fun s=>Z6 H (Wf f3) (hsl s)) hd hR⟩;simp only [execOp,resolve,invoke,builtin,Sem.run_bind,Sem.run_pure,Result.andThen_ok,List.map_toArray,QxC,List.map_nil,k2,hr]
 ·omega
end
end
section
open Go.RowKit
theorem QA {α:Type} {c:Bool} {a:Option α} {b:α} (h:(bif c then a else none)=some b):c=true/\a=some b:=by
 cases c with
 | false=>cases h
 | true=>exact ⟨rfl,h⟩
inductive EV where
 | v (x:Value)
 | u8 (c:UInt8)
 | u32 (c:UInt32)
 | u64 (c:UInt64)
 | az (n:Nat) (f:Nat->EV)
 | bs (l:List UInt8)
 | lz (n sz:Nat) (f:Nat->Nat->EV)
 | agg (l:List EV)
 | tup (l:List EV)
 | pp (cells:List EV) (off:Nat)
 | pb (l:List UInt8) (i:Nat)
 | pz (n sz:Nat) (f:Nat->Nat->EV) (i off:Nat)
 | raw (x:PV)
 | sl (cells:List EV) (n:Nat)
 | po (r sz i off:Nat)
 | own (r off:Nat)
 | osl (r n:Nat)
 | fn (f:FuncId) (caps:List EV)
 | rp (t:Option (List PV))
 | mref (r:Nat)
 | oss (r k n sz:Nat)
 | cnd (g:Bool) (x:EV)
 | any
abbrev EV.i (n:Int):EV:=.v (.int .i64 n)
abbrev EV.b (g:Bool):EV:=.v (.bool g)
abbrev EV.s (l:List UInt8):EV:=.v (.string ⟨⟨l⟩⟩)
abbrev EV.nil:EV:=.v (.slice none 0 0)
abbrev Qhy (c:UInt32):PV:=.v (.int .u32 (c.toNat:Int))
abbrev Qj6 (c:UInt64):PV:=.v (.int .u64 (c.toNat:Int))
def rpP:Option (List PV)->PV
 | none=>.v (.pointer none)
 | some c=>.pp c 0
mutual
def EV.pv:EV->PV
 | .v x=>.v x
 | .u8 c=>b8P c
 | .u32 c=>Qhy c
 | .u64 c=>Qj6 c
 | .az n f=>.agg ((Qxo n).map fun i=>(f i).pv)
 | .bs l=>WS l
 | .lz n sz f=>.sl ((Qxo n).flatMap fun i=>(Qxo sz).map fun j=>(f i j).pv) n
 | .agg l=>.agg (pvL l)
 | .tup l=>.tup (pvL l)
 | .pp cells off=>.pp (pvL cells) off
 | .pb l i=>.pp (l.map b8P) i
 | .pz n sz f i off=>.pp ((Qxo n).flatMap fun i=>(Qxo sz).map fun j=>(f i j).pv) (i * sz+off)
 | .raw x=>x
 | .sl cells n=>.sl (pvL cells) n
 | .fn f caps=>.fn f (pvL caps)
 | .rp t=>rpP t
 | .mref _=>.v undef
 | .oss _ _ _ _=>.v undef
 | .po _ _ _ _=>.v undef
 | .own _ _=>.v undef
 | .osl _ _=>.v undef
 | .cnd _ _=>.v undef
 | .any=>.v undef
def pvL:List EV->List PV
 | []=>[]
 | x::xs=>EV.pv x::pvL xs
end
mutual
def EV.av:EV->AV
 | .agg l=>.agg (avL l)
 | .tup l=>.tup (avL l)
 | .own r off=>.own r off
 | .osl r n=>.osl r n
 | .cnd g x=>.cnd g x.av
 | .any=>.any
 | .v x=>.p (.v x)
 | .u8 c=>.p (b8P c)
 | .u32 c=>.p (Qhy c)
 | .u64 c=>.p (Qj6 c)
 | .az n f=>.p (EV.pv (.az n f))
 | .bs l=>.p (WS l)
 | .lz n sz f=>.p (EV.pv (.lz n sz f))
 | .pp cells off=>.p (.pp (pvL cells) off)
 | .pb l i=>.p (.pp (l.map b8P) i)
 | .pz n sz f i off=>.p (EV.pv (.pz n sz f i off))
 | .raw x=>.p x
 | .sl cells n=>.p (.sl (pvL cells) n)
 | .fn f caps=>.p (.fn f (pvL caps))
 | .rp t=>.p (rpP t)
 | .mref r=>.mref r
 | .oss r k n sz=>.oss r k n sz
 | .po r sz i off=>.own r (i * sz+off)
def avL:List EV->List AV
 | []=>[]
 | x::xs=>EV.av x::avL xs
end
theorem ZB:∀ l:List EV,pvL l=l.map EV.pv
 | []=>rfl
 | x::xs=>by simp [pvL,ZB xs]
theorem W2:∀ l:List EV,avL l=l.map EV.av
 | []=>rfl
 | x::xs=>by simp [avL,W2 xs]
inductive EB where
 | box (cells:List EV) (t:TypeId)
 | rb (l:List UInt8) (t:TypeId) (pub:Nat)
 | row (cells:List EV) (t:TypeId) (sz pub:Nat)
 | rz (n sz:Nat) (f:Nat->Nat->EV) (t:TypeId) (pub:Nat)
 | bz (n:Nat) (f:Nat->EV) (t:TypeId)
 | mp (es:Q7)
 | it (m since:Nat) (seen:List Nat) (last:Nat)
 | ra (n sz:Nat) (f:Nat->Nat->EV) (t:TypeId) (ns:List Nat)
 | dead
def EB.ob:EB->OB
 | .box cells t=>.box (avL cells) t
 | .rb l t pub=>.row (l.map b8P) t 1 pub
 | .row cells t sz pub=>.row (pvL cells) t sz pub
 | .rz n sz f t pub=>.row ((Qxo n).flatMap fun i=>(Qxo sz).map fun j=>(f i j).pv) t sz pub
 | .bz n f t=>.box (((Qxo n).map fun i=>(f i).pv).map AV.p) t
 | .mp es=>Qj4 es
 | .it m since seen last=>.it m since seen.reverse.toArray last
 | .ra n sz f t ns=>.ra ((Qxo n).flatMap fun i=>(Qxo sz).map fun j=>(f i j).av) t sz ns
 | .dead=>.dead
structure ES where
 slots:List (Nat×EV)
 heap:List (Nat×EB)
def avs:List (Nat×EV)->List (Nat×AV)
 | []=>[]
 | p::l=>(p.1,p.2.av)::avs l
def obs:List (Nat×EB)->List (Nat×OB)
 | []=>[]
 | p::l=>(p.1,p.2.ob)::obs l
def ES.as (st:ES):AS:=⟨avs st.slots,obs st.heap⟩
theorem Q8:∀ (l:List (Nat×EV)) (s:Nat),look AV.any (avs l) s=(look EV.any l s).av
 | [],s=>by simp [avs,look,EV.av]
 | (k,x)::l,s=>by
  simp only [avs,look]
  cases Qxr k s with
  | true=>rfl
  | false=>exact Q8 l s
theorem Q9:∀ (l:List (Nat×EB)) (s:Nat),look OB.dead (obs l) s=(look EB.dead l s).ob
 | [],s=>rfl
 | (k,x)::l,s=>by
  simp only [obs,look]
  cases Qxr k s with
  | true=>rfl
  | false=>exact Q9 l s
theorem Qs3 (l m:List (Nat×EV)):avs (l++m)=avs l++avs m:=by
 induction l with
 | nil=>rfl
 | cons x l ih=>simp [avs,ih]
theorem Q1 (l m:List (Nat×EB)):obs (l++m)=obs l++obs m:=by
 induction l with
 | nil=>rfl
 | cons x l ih=>simp [obs,ih]
def Ql (sl:List (Nat×EV)):Operand->EV
 | .tmp t=>look .any sl t
 | .const c=>.v c
 | .func f=>.v (.func (.func f) #[] #[])
 | .global _=>.any
def ES.ev (st:ES) (x:Operand):EV:=Ql st.slots x
def ES.eb (st:ES) (r:Nat):EB:=look .dead st.heap r
theorem XJ (st:ES) (x:Operand):st.as.ev x=(st.ev x).av:=by
 cases x with
 | tmp t=>exact Q8 _ _
 | const c=>simp [AS.ev,ES.ev,Ql,EV.av]
 | func f=>simp [AS.ev,ES.ev,Ql,EV.av]
 | global g=>simp [AS.ev,ES.ev,Ql,EV.av]
theorem Qpt (st:ES) (r:Nat):st.as.ob r=(st.eb r).ob:=Q9 _ _
mutual
def EV.has (r:Nat):EV->Bool
 | .agg l=>Qf3 r l
 | .tup l=>Qf3 r l
 | .own q _=>Qxr q r
 | .osl q _=>Qxr q r
 | .cnd _ x=>EV.has r x
 | .v _=>false
 | .u8 _=>false
 | .u32 _=>false
 | .u64 _=>false
 | .az _ _=>false
 | .bs _=>false
 | .lz _ _ _=>false
 | .pp _ _=>false
 | .pb _ _=>false
 | .pz _ _ _ _ _=>false
 | .raw _=>false
 | .sl _ _=>false
 | .fn _ _=>false
 | .rp _=>false
 | .mref q=>Qxr q r
 | .oss q _ _ _=>Qxr q r
 | .po q _ _ _=>Qxr q r
 | .any=>false
def Qf3 (r:Nat):List EV->Bool
 | []=>false
 | x::xs=>EV.has r x || Qf3 r xs
end
mutual
theorem Qj7 (r:Nat):∀ x:EV,x.av.has r=x.has r
 | .agg l=>by simp only [EV.av,AV.has,EV.has];exact Qat r l
 | .tup l=>by simp only [EV.av,AV.has,EV.has];exact Qat r l
 | .own q _=>by simp only [EV.av,AV.has,EV.has]
 | .osl q _=>by simp only [EV.av,AV.has,EV.has]
 | .cnd _ x=>by simp only [EV.av,AV.has,EV.has];exact Qj7 r x
 | .v _=>by simp only [EV.av,AV.has,EV.has]
 | .u8 _=>by simp only [EV.av,AV.has,EV.has]
 | .u32 _=>by simp only [EV.av,AV.has,EV.has]
 | .u64 _=>by simp only [EV.av,AV.has,EV.has]
 | .az _ _=>by simp only [EV.av,AV.has,EV.has]
 | .bs _=>by simp only [EV.av,AV.has,EV.has]
 | .lz _ _ _=>by simp only [EV.av,AV.has,EV.has]
 | .pp _ _=>by simp only [EV.av,AV.has,EV.has]
 | .pb _ _=>by simp only [EV.av,AV.has,EV.has]
 | .pz _ _ _ _ _=>by simp only [EV.av,AV.has,EV.has]
 | .raw _=>by simp only [EV.av,AV.has,EV.has]
 | .sl _ _=>by simp only [EV.av,AV.has,EV.has]
 | .fn _ _=>by simp only [EV.av,AV.has,EV.has]
 | .rp _=>by simp only [EV.av,AV.has,EV.has]
 | .mref _=>by simp only [EV.av,AV.has,EV.has]
 | .oss _ _ _ _=>by simp only [EV.av,AV.has,EV.has]
 | .po _ _ _ _=>by simp only [EV.av,AV.has,EV.has]
 | .any=>by simp only [EV.av,AV.has,EV.has]
theorem Qat (r:Nat):∀ l:List EV,YC r (avL l)=Qf3 r l
 | []=>rfl
 | x::xs=>by simp only [avL,YC,Qf3];rw [Qj7 r x,Qat r xs]
end
def EB.has (r:Nat):EB->Bool
 | .box cells _=>Qf3 r cells
 | .it m _ _ _=>Qxr m r
 | .ra _ _ _ _ ns=>ns.contains r
 | _=>false
theorem Qbr (r:Nat):∀ l:List PV,YC r (l.map AV.p)=false
 | []=>rfl
 | x::xs=>by simp only [QxC,YC,AV.has,Bool.false_or];exact Qbr r xs
theorem QvX (r:Nat) (x:EB):x.ob.has r=x.has r:=by
 cases x <;> simp only [EB.ob,OB.has,EB.has,Qat,Qbr]
def EB.alive:EB->Bool
 | .dead=>false
 | _=>true
theorem ZS (x:EB):x.ob.alive=x.alive:=by cases x <;> rfl
def Xu (r:Nat):List (Nat×EB)->Bool
 | []=>false
 | p::h=>p.2.has r || Xu r h
def YU (r:Nat):List (Nat×EV)->Bool
 | []=>false
 | p::h=>p.2.has r || YU r h
theorem Qhz (r:Nat):∀ h:List (Nat×EB),WF r (obs h)=Xu r h
 | []=>rfl
 | p::h=>by simp only [obs,WF,Xu];rw [QvX,Qhz r h]
theorem QhA (r:Nat):∀ h:List (Nat×EV),YP r (avs h)=YU r h
 | []=>rfl
 | p::h=>by simp only [avs,YP,YU];rw [Qj7,QhA r h]
def ES.free (st:ES) (kp:List Nat) (r:Nat):Bool:=!(look EB.dead st.heap r).alive && !Xu r st.heap && !YU r st.slots && !QO r kp
theorem JH (r:Nat):∀ l:List Nat,QO r l=l.contains r
 | []=>rfl
 | x::l=>by
  simp only [QO,List.contains_cons,JH r l];congr 1;rw [Bool.eq_iff_iff];simp
theorem Wz (st:ES) (kp:List Nat) (r:Nat):st.as.free kp r=st.free kp r:=by
 unfold AS.free ES.free ES.as;simp only;rw [Q9,ZS,Qhz,QhA,JH]
theorem Ys (n sz:Nat) (f:Nat->Nat->EV) {i j:Nat} (hi:i < n) (hj:j < sz) :
  ((Qxo n).flatMap fun i=>(Qxo sz).map fun j=>(f i j).pv)[i * sz+j]? = some (f i j).pv:=by
 induction n with
 | zero=>omega
 | succ n ih =>
  rw [Qxz,Qxt]
  have hl:((Qxo n).flatMap fun i=>(Qxo sz).map fun j=>(f i j).pv).length=n * sz:=by
   clear ih hi
   induction n with
   | zero=>simp
   | succ n ih=>rw [Qxz,Qxt,Qxp,ih];simp [QxD]
  by_cases h:i < n
  ·rw [List.getElem?_append_left (by rw [hl];calc i * sz+j < i * sz+sz:=by omega
                         _=(i+1) * sz:=by rw [QxD]
                         _<=n * sz:=Qxs _ h)]
   exact ih h
  ·obtain rfl:i=n:=by omega
   rw [List.getElem?_append_right (by rw [hl];omega),hl];simp [show i * sz+j - i * sz=j from by omega,hj]
theorem Wp (n sz:Nat) (f:Nat->Nat->EV):((Qxo n).flatMap fun i=>(Qxo sz).map fun j=>(f i j).pv).length=n * sz:=by
 induction n with
 | zero=>simp
 | succ n ih=>rw [Qxz,Qxt,Qxp,ih];simp [QxD]
theorem Gv.agg' {l:List PV}:Gv (.p (.agg l)) (.agg (l.map .p)):=fun w Pub φ u k=>by
 unfold RA at k ⊢;unfold RP at k;obtain ⟨vs,e,h⟩:=k;refine ⟨vs,e,?_⟩;clear e
 induction l generalizing vs with
 | nil=>unfold RPs at h;simp only [List.map_nil];unfold RAs;exact h
 | cons x l ih =>
  rw [QxC];unfold RPs at h;unfold RAs;obtain ⟨u,us,e,h1,h2⟩:=h;exact ⟨u,us,e,by unfold RA;exact h1,ih us h2⟩
mutual
def EV.sh:EV->Bool
 | .agg l=>shL l
 | .tup l=>shL l
 | .own _ _=>false
 | .po _ _ _ _=>false
 | .osl _ _=>false
 | .cnd _ _=>false
 | .any=>false
 | .sl _ _=>true
 | .fn _ _=>true
 | .rp _=>true
 | .mref _=>false
 | .oss _ _ _ _=>false
 | .v _=>true
 | .u8 _=>true
 | .u32 _=>true
 | .u64 _=>true
 | .az _ _=>true
 | .bs _=>true
 | .lz _ _ _=>true
 | .pp _ _=>true
 | .pb _ _=>true
 | .pz _ _ _ _ _=>true
 | .raw _=>true
def shL:List EV->Bool
 | []=>true
 | x::xs=>EV.sh x && shL xs
end
section
variable {w:World} {Pub:Nat->Nat->Prop} {φ:Qi}
mutual
theorem XK:∀ (x:EV) (u:Value),x.sh=true->(RA w Pub φ x.av u↔RP w Pub x.pv u)
 | .agg l,u,h=>by
  unfold EV.sh at h;unfold EV.av EV.pv RA RP;exact ⟨fun ⟨vs,e,k⟩=>⟨vs,e,(ZT l vs h).1 k⟩,fun ⟨vs,e,k⟩=>⟨vs,e,(ZT l vs h).2 k⟩⟩
 | .tup l,u,h=>by
  unfold EV.sh at h;unfold EV.av EV.pv RA RP;exact ⟨fun ⟨vs,e,k⟩=>⟨vs,e,(ZT l vs h).1 k⟩,fun ⟨vs,e,k⟩=>⟨vs,e,(ZT l vs h).2 k⟩⟩
 | .own _ _,_,h=>by unfold EV.sh at h;cases h
 | .po _ _ _ _,_,h=>by unfold EV.sh at h;cases h
 | .sl _ _,_,_=>by unfold EV.av EV.pv RA;exact Iff.rfl
 | .fn _ _,_,_=>by unfold EV.av EV.pv RA;exact Iff.rfl
 | .rp _,_,_=>by unfold EV.av EV.pv RA;exact Iff.rfl
 | .mref _,_,h=>by unfold EV.sh at h;cases h
 | .oss _ _ _ _,_,h=>by unfold EV.sh at h;cases h
 | .osl _ _,_,h=>by unfold EV.sh at h;cases h
 | .cnd _ _,_,h=>by unfold EV.sh at h;cases h
 | .any,_,h=>by unfold EV.sh at h;cases h
 | .v _,_,_=>by unfold EV.av EV.pv RA;exact Iff.rfl
 | .u8 _,_,_=>by unfold EV.av EV.pv RA;exact Iff.rfl
 | .u32 _,_,_=>by unfold EV.av EV.pv RA;exact Iff.rfl
 | .u64 _,_,_=>by unfold EV.av EV.pv RA;exact Iff.rfl
 | .az _ _,_,_=>by unfold EV.av RA;exact Iff.rfl
 | .bs _,_,_=>by unfold EV.av EV.pv RA;exact Iff.rfl
 | .lz _ _ _,_,_=>by unfold EV.av RA;exact Iff.rfl
 | .pp _ _,_,_=>by unfold EV.av EV.pv RA;exact Iff.rfl
 | .pb _ _,_,_=>by unfold EV.av EV.pv RA;exact Iff.rfl
 | .pz _ _ _ _ _,_,_=>by unfold EV.av RA;exact Iff.rfl
 | .raw _,_,_=>by unfold EV.av EV.pv RA;exact Iff.rfl
theorem ZT:∀ (l:List EV) (us:List Value),shL l=true->(RAs w Pub φ (avL l) us↔RPs w Pub (pvL l) us)
 | [],us,_=>by unfold avL pvL RAs RPs;exact Iff.rfl
 | x::xs,us,h=>by
  unfold shL at h;rw [Qxy] at h;unfold avL pvL RAs RPs;exact ⟨fun ⟨u,vs,e,k1,k2⟩=>⟨u,vs,e,(XK x u h.1).1 k1,(ZT xs vs h.2).1 k2⟩,fun ⟨u,vs,e,k1,k2⟩=>⟨u,vs,e,(XK x u h.1).2 k1,(ZT xs vs h.2).2 k2⟩⟩
end
end
theorem Gv.sh {x:EV} (h:x.sh=true):Gv x.av (.p x.pv):=fun w Pub φ u k=>by unfold RA;exact (XK x u h).1 k
theorem Gv.sh' {x:EV} (h:x.sh=true):Gv (.p x.pv) x.av:=fun w Pub φ u k=>by unfold RA at k;exact (XK x u h).2 k
inductive TK where
 | int (k:IntKind) | bool | str
 | sl (e:TypeId) (sz bytes:Nat) (ze:List Value)
 | st (pl:List (Nat×Nat×Bool))
 | ar (n esz:Nat) (e:TypeId)
 | ptr | other
 | mp (K V:TypeId)
structure TI where
 k:TK
 agg:Bool
 sz:Nat
 ze:Option (List Value)
 ks:Option (List CK):=none
inductive TT where
 | leaf | node (T:Nat) (i:TI) (l r:TT)
def TT.find (T:Nat):TT->Option TI
 | .leaf=>none
 | .node K i l r=>bif Qxr T K then some i else bif Qxu T K then l.find T else r.find T
def QhB (P:Program):List (Nat×Nat×Bool)->List Field->Bool
 | p::pl,fd::fs=>(!p.2.2 || (match Q4 P fd.type with | some false=>true | _=>false)) && QhB P pl fs
 | _,_=>true
def stNA (P:Program) (T:TypeId) (pl:List (Nat×Nat×Bool)):Bool:=match P.underlying T with
 | some (.struct fs)=>QhB P pl fs.toList
 | _=>true
theorem Qe1 {P:Program} {o s:Nat} {fd:Field}:∀ {pl:List (Nat×Nat×Bool)} {fs:List Field} {f:Nat},QhB P pl fs=true->pl[f]? = some (o,s,true)->fs[f]? = some fd->Q4 P fd.type=some false
 | [],_,_,_,h,_=>by simp at h
 | _::_,[],_,_,_,h=>by simp at h
 | p::pl,g::fs,0,h,h1,h2=>by
  simp at h1 h2;subst h1 h2;unfold QhB at h;rw [Qxy] at h;have:=h.1;simp only [Bool.not_true,Bool.false_or] at this;split at this
  ·assumption
  ·cases this
 | p::pl,g::fs,f+1,h,h1,h2=>by
  unfold QhB at h;rw [Qxy] at h;exact Qe1 h.2 (by simpa using h1) (by simpa using h2)
structure TIok (P:Program) (T:TypeId) (i:TI):Prop where
 agg:Q4 P T=some i.agg
 sz:Zh P T=some i.sz
 ze:∀ z,i.ze=some z->QjM P T=some z/\z.all (·.oneCell')=true
 int:∀ k,i.k=.int k->P.underlying T=some (.int k)
 ptr:i.k=.ptr->∃ e,P.underlying T=some (.pointer e)
 ks:∀ l,i.ks=some l->Xd P 20 T=some l/\P.eqGuardType P.depth T=false
 str:i.k=.str->P.underlying T=some .string
 bool:i.k=.bool->P.underlying T=some .bool
 sl:∀ e sz b z,i.k=.sl e sz b z->P.underlying T=some (.slice e)/\X8 P T=some (e,sz)/\Qbh P T=some (e,sz,b,z)/\0 < sz/\z.all (·.oneCell')=true
 st:∀ pl,i.k=.st pl->Qbc P T=some (pl.map fun p=>(p.1,p.2.1))
 fl:∀ pl,i.k=.st pl->stNA P T pl=true
 mp:∀ K V,i.k=.mp K V->MapT P T K V
 ar:∀ n s e,i.k=.ar n s e->Qhf P T=some (n,s)/\P.underlying T=some (.array n e)/\Zh P e=some s
def TT.ok (P:Program):TT->Prop
 | .leaf=>True
 | .node T i l r=>TIok P T i/\l.ok P/\r.ok P
theorem TT.find_ok {P:Program} {T:Nat} {i:TI}:∀ {t:TT},t.ok P->t.find T=some i->TIok P T i
 | .leaf,_,h=>by cases h
 | .node K j l r,ho,h=>by
  unfold TT.ok at ho;unfold TT.find at h
  cases e:Qxr T K with
  | true=>rw [e] at h;simp at h;subst h;rw [Nat.eq_of_beq_eq_true e];exact ho.1
  | false =>
   rw [e] at h;simp only [cond_false] at h
   cases e2:Qxu T K with
   | true=>rw [e2] at h;exact TT.find_ok ho.2.1 h
   | false=>rw [e2] at h;exact TT.find_ok ho.2.2 h
end
end Go.Proofs.YtcebndkiagbddaaGreatDoor
