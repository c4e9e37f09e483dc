/- A part of the proof: contracts of functions and what they stand on. Written shorter and merged by a program (pack.py). -/
import Derived.Lib.Repeat
import Derived.Shelf.Strings.Builder1
import Derived.Shelf.Strings.Builder2
import Derived.Shelf.Strings.OnBuilder
import Derived.Shelf.Small.Bits
import Derived.Shelf.Small.Strs
import Derived.Shelf.Strings.BuilderF
import Derived.Shelf.Strings.BuilderK
import Derived.Shelf.Strings.Builder2Cap
import Derived.Shelf.Strconv.Itoa0
import Derived.Shelf.Strconv.Itoa1
import Derived.Shelf.LaysM
import Derived.Shelf.Strconv.Itoa2
import Derived.Shelf.Strconv.Itoa3
import Derived.Shelf.Strings.Search1
import Derived.Shelf.Strings.Search2
import Derived.Shelf.Strings.Search3
import Derived.Shelf.Strings.Cut
import Derived.Shelf.Strings.Count
import Derived.Shelf.Strings.Shaped
import Derived.Shelf.Strings.Prefix
import Derived.Shelf.Strings.Split
import Derived.Shelf.Bits.Mul64
import Derived.Shelf.Strings.Repeat
import Derived.Shelf.Unicode.DecodeSlow
import Derived.Shelf.Strings.BuilderCap
import Derived.Shelf.Slices.Turned
import Derived.Test.YtcebndkiagbddaaGreatDoorProg
import Derived.Test.YtcebndkiagbddaaGreatDoorRows
import Derived.KernelRfl
import Derived.JoinedOf
import Derived.Test.YtcebndkiagbddaaGreatDoorK15
import Derived.Test.YtcebndkiagbddaaGreatDoorK0
set_option linter.unusedVariables false
set_option linter.unusedSimpArgs false
set_option maxRecDepth 100000
set_option maxHeartbeats 4000000
open Array renaming getD_eq_getD_getElem? → Qy3, getElem?_replicate → Qy5, all_eq_true → Qzj
open Char renaming ofNat → Qy4
open Bool renaming and_eq_true → Qy6, or_eq_true → Qy7, not_eq_true' → Qy8, or_eq_false_iff → Qzg
open List renaming mem_cons → Qy9, getD_eq_getElem?_getD → Qza, rec → Qze, mem_cons_of_mem → Qzh, contains → Qzi
open Nat renaming le_refl → Qzb, lt_trichotomy → Qzc
open Option renaming getD_some → Qzd, map_some → Qzf
namespace Go.Proofs.YtcebndkiagbddaaGreatDoor
section
open Go.RowKit
section
variable {P:Program} {E:Env} {kp:List Nat} {n:Nat} {ops:Array Oper}
structure EFok (P:Program) (E:Env) (kp:List Nat) (n:Nat) (ops:Array Oper) (cur:ES) (o:Oper) (e:EF):Prop where
 step:∀ st:ES,(∀ s∈e.rd,look EV.any st.slots s=look EV.any cur.slots s)→(∀ r∈e.tb,look EB.dead st.heap r=look EB.dead cur.heap r)→(∀ r∈e.nw,st.free kp r=true)→Qf P E kp n ops o st.as (ES.as ⟨e.sl++st.slots,e.hp++st.heap⟩)
 new:∀ r∈e.nw,cur.free kp r=true∧QU r e.hp=true
 key:∀ r,QU r e.hp=true→r∈e.tb∨r∈e.nw
def Qf6 (b:ES) (es:List EF):ES:=⟨XH (fun _=>true) b.slots es,XI (fun _=>true) b.heap es⟩
def Qqi (P:Program) (E:Env) (kp:List Nat) (n:Nat) (ops:Array Oper) (ms:List Nat) (b:ES):List EF→Prop
 | []=>True
 | e::es=>Qqi P E kp n ops ms b es∧(∀ o,ops[es.length]? = some o→EFok P E kp n ops (Qf6 b es) o e)∧Qec (ms.getD es.length 0) e es.length es=true
theorem Qk8 {m:Nat} {f:EF}:∀ {es:List EF},Qec m f es.length es=true → ∀ k e,ZA k es=some e→Qm7 m k=true∨Jk e f=false
 | [],_,k,e,hk=>by cases hk
 | g::es,h,k,e,hk=>by
  simp only [List.length_cons,Qec,Qy6,Qy7,Qy8] at h;unfold ZA at hk;split at hk
  ·next e1=>cases hk;subst e1;exact h.1
  ·exact Qk8 h.2 k e hk
theorem Qi3 {ms:List Nat} {b:ES}:∀ {es:List EF},Qqi P E kp n ops ms b es → ∀ i,i < es.length→∃ e,ZA i es=some e∧(∀ o,ops[i]? = some o→EFok P E kp n ops (Qf6 b (Jl i es)) o e) ∧ ∀ k f,k < i→ZA k es=some f→Qm7 (ms.getD i 0) k=true∨Jk f e=false
 | [],_,i,h=>by simp at h
 | e::es,hg,i,h=>by
  obtain ⟨h1,h2,h3⟩:=hg;by_cases hi:i=es.length
  ·subst hi;refine ⟨e,by simp [ZA],?_,fun k f hk hn=>?_⟩
   ·have:Jl es.length (e::es)=es:=by unfold Jl;rw [if_pos (Qzb _)];exact QsX es
    rw [this];exact h2
   ·unfold ZA at hn;rw [if_neg (by omega)] at hn;exact Qk8 h3 k f hn
  ·simp only [List.length_cons] at h;obtain ⟨f,k1,k2,k3⟩:=Qi3 h1 i (by omega);refine ⟨f,by unfold ZA;rw [if_neg hi];exact k1,?_,fun k g hk hn=>?_⟩
   ·have:Jl i (e::es)=Jl i es:=by rw [Jl,if_pos (by omega)]
    rw [this];exact k2
   ·unfold ZA at hn;rw [if_neg (by omega)] at hn;exact k3 k g hk hn
theorem QhD (b:List (Nat×EV)):∀ es:List EF,XH (fun _=>false) b es=b
 | []=>rfl
 | e::es=>by unfold XH;rw [if_neg (by simp)];exact QhD b es
theorem QhE (b:List (Nat×EB)):∀ es:List EF,XI (fun _=>false) b es=b
 | []=>rfl
 | e::es=>by unfold XI;rw [if_neg (by simp)];exact QhE b es
theorem Qqj (ops:Array Oper):Region.ready .any ops (Qao ops.size ops.size)=[]:=by
 unfold Region.ready;rw [List.filter_eq_nil_iff];intro i hi;have hi:=List.mem_range.1 hi
 have:(Qao ops.size ops.size).getD i true=true:=by
  unfold Qao;rw [Qy3];simp [hi]
 rw [this];simp
theorem Qqk {ms:List Nat} (h:VF ops ms ops.size=true):Qdo ops ops.size=true:=by
 unfold Qdo;simp only [Qy6,List.all_eq_true,List.mem_range];refine ⟨fun i hi=>?_,fun i hi=>by simp [hi]⟩;have h1:=(QbR h hi).1;have ho:ops[i]? = some ops[i]:=Array.getElem?_eq_getElem hi;rw [ho];simp only [Qzf,Qzd,Qzj,Qy7,Qy8,decide_eq_true_eq];intro x hx
 cases hb:Region.binds .any (ops[i].after[x]) with
 | false=>exact .inl rfl
 | true =>
  refine .inr (h1 _ ?_);unfold Wq;rw [ho];simp only [Qzf,Qzd,List.mem_map];exact ⟨_,List.mem_filter.2 ⟨Array.mem_def.1 (Array.getElem_mem hx),hb⟩,rfl⟩
theorem QsY {ms:List Nat} {b:ES} {es:List EF} {id:Nat} {Q:Exit→Act→World→Prop} (hx:P.follows .mixedOrders=true) (hms:VF ops ms ops.size=true) (hg:Qqi P E kp n ops ms b es) (hlen:es.length=ops.size)
  (hk:To E kp n Q .normal (Qf6 b es).as):AW P E kp n (.region id ops true) Q b.as:=by
 intro a w hsat
 let S:(Nat→Bool)→ES:=fun L=>⟨XH L b.slots es,XI L b.heap es⟩
 let DC:(Nat→Bool)→Prop:=fun L=>∀ i,i < ops.size→L i=true → ∀ j∈Wq ops i,L j=true
 have lookS:∀ (X Y:ES),(∀ s,look EV.any X.slots s=look EV.any Y.slots s)→(∀ r,look EB.dead X.heap r=look EB.dead Y.heap r) → ∀ a w,Sat E kp n Y.as a w→Sat E kp n X.as a w:=fun X Y h1 h2 a w h =>
  Sat.congr (fun s=>by
   show look AV.any (avs X.slots) s=look AV.any (avs Y.slots) s
   rw [WF,WF,h1]) (fun r=>by
   show look OB.dead (obs X.heap) r=look OB.dead (obs Y.heap) r
   rw [WG,WG,h2]) h
 have hfin:=Qd3 (P:=P) (ops:=ops) (Q:=Q) (m:=ops.size) (Qqk hms) (Qzb _) (fun L a w=>Sat E kp n (S L).as a w∧DC L) ?step ?fin ops.size (Array.replicate ops.size false) a w.drew (by simp) (fun i _ hi=>by
   rw [Qy3,Qy5,if_pos hi];rfl) (fun i hi=>by
   rw [Qy3,Qy5] at hi;split at hi <;> simp at hi) (QbD _ _ (Qzb _)) ⟨?start,fun i hi hL=>by
   simp only [Qy3,Qy5] at hL
   rw [if_pos (by omega)] at hL;simp at hL⟩
 case start =>
  obtain ⟨φ,Pub,I,h0,hn,hsl⟩:=hsat;have h1:Sat E kp n b.as a w.drew:=⟨φ,Pub,I.drew,h0,hn,fun s=>QX V5 _ _ (fun _ _=>rfl) (hsl s)⟩;refine lookS _ b (fun s=>?_) (fun r=>?_) _ _ h1
  ·have e:=QhD b.slots es;show look EV.any (XH _ b.slots es) s=_;rw [Jm (L':=fun _=>false) (fun k f hkf _=>?_),e];have:=ZY hkf;simp only [Qy3,Qy5];rw [if_pos (by omega)];simp
  ·have e:=QhE b.heap es;show look EB.dead (XI _ b.heap es) r=_;rw [Jn (L':=fun _=>false) (fun k f hkf _=>?_),e];have:=ZY hkf;simp only [Qy3,Qy5];rw [if_pos (by omega)];simp
 case fin =>
  intro L a w hall ⟨hS,_⟩;rw [Nat.sub_self];refine ⟨Qqj ops,hk a w (lookS _ (S L) (fun s=>?_) (fun r=>?_) _ _ hS)⟩
  ·exact Jm (fun k f hkf _=>(hall k (by have:=ZY hkf;omega)).symm)
  ·exact Jn (fun k f hkf _=>(hall k (by have:=ZY hkf;omega)).symm)
 case step =>
  intro L a w i o K hi ho hLi hd ⟨hS,hDC⟩ hK;obtain ⟨e,he,hok,hpr⟩:=Qi3 hg i (by omega);have hok:=hok o ho
  have hdL:∀ j∈Wq ops i,L j=true:=fun j hj=>by
   unfold Wq at hj;rw [ho] at hj;simp only [Qzf,Qzd] at hj;rw [List.mem_map] at hj;obtain ⟨x,hx,rfl⟩:=hj;rw [List.mem_filter] at hx;obtain ⟨y,hy,hy2⟩:=Array.mem_iff_getElem.1 (Array.mem_def.2 hx.1);rw [Qzj] at hd;have:=hd y hy;rw [hy2] at this;simp only [Qy7,Qy8] at this;rcases this with h5 | h5
   ·rw [hx.2] at h5;cases h5
   ·exact h5
  have hC:=QoO hms hDC i hi hdL
  have early:∀ k f,k < i→ZA k es=some f→Jk f e=true→L k=true:=fun k f hki hkf hc=>by
   rcases hpr k f hki hkf with h5 | h5
   ·exact hC k h5
   ·rw [hc] at h5;cases h5
  have late:∀ k f,i < k→ZA k es=some f→Jk e f=true→L k=false:=fun k f hki hkf hc=>by
   cases hLk:L k with
   | false=>rfl
   | true =>
    have hkm:k < ops.size:=by have:=ZY hkf;omega
    obtain ⟨f',hf',_,hpr'⟩:=Qi3 hg k (by omega);rw [hkf] at hf';cases hf';rcases hpr' i e hki he with h5 | h5
    ·have:=QoO hms hDC k hkm (hDC k hkm hLk) i h5;rw [hLi] at this;cases this
    ·rw [hc] at h5;cases h5
  have uS:∀ s,(∀ f:EF,QU s f.sl=true→Jk f e=true)→(∀ f:EF,QU s f.sl=true→Jk e f=true)→look EV.any (S L).slots s=look EV.any (Qf6 b (Jl i es)).slots s:=fun s h1 h2=>by
   show look EV.any (XH L b.slots es) s=look EV.any (XH (fun _=>true) b.slots (Jl i es)) s;rw [← (QaC b.slots b.heap es).1];refine Jm fun k f hkf hs=>?_;rcases Qzc k i with h5 | h5 | h5
   ·rw [early k f h5 hkf (h1 f hs)];simp [h5]
   ·subst h5;rw [hLi];simp
   ·rw [late k f h5 hkf (h2 f hs)];simp;omega
  have uH:∀ r,(∀ f:EF,QU r f.hp=true→Jk f e=true)→(∀ f:EF,QU r f.hp=true→Jk e f=true)→look EB.dead (S L).heap r=look EB.dead (Qf6 b (Jl i es)).heap r:=fun r h1 h2=>by
   show look EB.dead (XI L b.heap es) r=look EB.dead (XI (fun _=>true) b.heap (Jl i es)) r;rw [← (QaC b.slots b.heap es).2];refine Jn fun k f hkf hs=>?_;rcases Qzc k i with h5 | h5 | h5
   ·rw [early k f h5 hkf (h1 f hs)];simp [h5]
   ·subst h5;rw [hLi];simp
   ·rw [late k f h5 hkf (h2 f hs)];simp;omega
  have hstep:=hok.step (S L) (fun s hs=>uS s (fun f hf=>?_) (fun f hf=>?_)) (fun r hr=>uH r (fun f hf=>?_) (fun f hf=>?_)) (fun r hr=>?_)
  ·refine hstep a w K Q hS (fun a' w' hs'=>hK a' w' ⟨lookS _ _ (fun s=>?_) (fun r=>?_) _ _ hs',fun x hx hLx y hy=>?_⟩)
   ·show look EV.any (XH (fun j=>j == i || L j) b.slots es) s=look EV.any (e.sl++XH L b.slots es) s;rw [QF]
    cases hes:QU s e.sl with
    | true =>
     rw [if_pos rfl];refine Qk4 hes he (by simp) fun k f hik hkf hs=>?_
     have:=late k f hik hkf (by
      unfold Jk;rw [XS hes (by rw [hs];simp)];rfl)
     simp [this];omega
    | false =>
     rw [if_neg (by simp)];refine Jm fun k f hkf hs=>?_;have:k≠i:=fun h5=>by subst h5;rw [he] at hkf;cases hkf;rw [hes] at hs;cases hs
     simp [this]
   ·show look EB.dead (XI (fun j=>j == i || L j) b.heap es) r=look EB.dead (e.hp++XI L b.heap es) r;rw [QF]
    cases hes:QU r e.hp with
    | true =>
     rw [if_pos rfl];refine Qk5 hes he (by simp) fun k f hik hkf hs=>?_
     have:=late k f hik hkf (by
      unfold Jk;rw [XS (f:=fun r=>Q9 r f.tb || QU r f.hp) hes (by rw [hs];simp)];simp)
     simp [this];omega
    | false =>
     rw [if_neg (by simp)];refine Jn fun k f hkf hs=>?_;have:k≠i:=fun h5=>by subst h5;rw [he] at hkf;cases hkf;rw [hes] at hs;cases hs
     simp [this]
   ·simp only [Qy7,beq_iff_eq] at hLx ⊢;rcases hLx with rfl | hLx
    ·exact .inr (hdL y hy)
    ·exact .inr (hDC x hx hLx y hy)
  ·unfold Jk;rw [XS hf (by rw [Yf.2 hs];rfl)];rfl
  ·unfold Jk;rw [XS (f:=fun s=>Q9 s e.rd) hf (Yf.2 hs)];simp
  ·unfold Jk;rw [XS (f:=fun r=>Q9 r e.tb || QU r e.hp) hf (by rw [Yf.2 hr];rfl)];simp
  ·unfold Jk;rw [XS (f:=fun r=>Q9 r e.tb) hf (Yf.2 hr)];simp
  ·obtain ⟨hfree,hkey⟩:=hok.new r hr;have hl:=uH r (fun f hf=>by unfold Jk;rw [XS (f:=fun r=>Q9 r e.tb || QU r e.hp) hf (by rw [hkey];simp)];simp) (fun f hf=>by unfold Jk;rw [XS (f:=fun r=>Q9 r f.tb || QU r f.hp) hkey (by rw [hf];simp)];simp);unfold ES.free at hfree ⊢;simp only [Qy6,Qy8] at hfree ⊢;obtain ⟨⟨⟨f1,f2⟩,f3⟩,f4⟩:=hfree;have e1:=(QaC (i:=i) b.slots b.heap es).1;have e2:=(QaC (i:=i) b.slots b.heap es).2;have f2:VQ r (XI (fun k=>decide (k < i)) b.heap es)=false:=by rw [e2];exact f2
   have f3:Vb r (XH (fun k=>decide (k < i)) b.slots es)=false:=by rw [e1];exact f3
   obtain ⟨g2,g2'⟩:=QaG f2;obtain ⟨g3,g3'⟩:=QaF f3
   have hno:∀ k f,ZA k es=some f→L k=true→VQ r f.hp=false∧Vb r f.sl=false:=fun k f hkf hLk=>by
    rcases Qzc k i with h5 | h5 | h5
    ·exact ⟨g2' k f hkf (by simp [h5]),g3' k f hkf (by simp [h5])⟩
    ·subst h5;rw [hLi] at hLk;cases hLk
    ·have hc:Jk e f=false:=by
      cases hc:Jk e f with
      | false=>rfl
      | true=>have:=late k f h5 hkf hc;rw [hLk] at this;cases this
     unfold Jk at hc;simp only [Qzg] at hc;have h6:=hc.2.2.2.2;constructor
     ·cases hq:VQ r f.hp with
      | false=>rfl
      | true =>
       have:=Qi2 (f:=fun r=>Vb r f.sl || VQ r f.hp) hr (by rw [hq];simp);rw [this] at h6;cases h6
     ·cases hq:Vb r f.sl with
      | false=>rfl
      | true =>
       have:=Qi2 (f:=fun r=>Vb r f.sl || VQ r f.hp) hr (by rw [hq];simp);rw [this] at h6;cases h6
   refine ⟨⟨⟨?_,Qk7 g2 fun k f hkf hLk=>(hno k f hkf hLk).1⟩,Qk6 g3 fun k f hkf hLk=>(hno k f hkf hLk).2⟩,f4⟩;rw [hl];exact f1
 rw [Nat.sub_self,Nat.add_zero] at hfin;exact wp_region_any hx hfin
end
end
section
open Go.RowKit
mutual
def EV.nms:EV→List Nat→List Nat
 | .agg l,k=>Qv9 l k
 | .tup l,k=>Qv9 l k
 | .own q _,k=>q::k
 | .osl q _,k=>q::k
 | .fn _ _,k=>k
 | .rp _,k=>k
 | .mref q,k=>q::k
 | .oss q _ _ _,k=>q::k
 | .po q _ _ _,k=>q::k
 | .cnd _ x,k=>EV.nms x k
 | .v _,k=>k
 | .u8 _,k=>k
 | .u32 _,k=>k
 | .u64 _,k=>k
 | .az _ _,k=>k
 | .bs _,k=>k
 | .lz _ _ _,k=>k
 | .pp _ _,k=>k
 | .pb _ _,k=>k
 | .pz _ _ _ _ _,k=>k
 | .raw _,k=>k
 | .sl _ _,k=>k
 | .any,k=>k
def Qv9:List EV→List Nat→List Nat
 | [],k=>k
 | x::xs,k=>EV.nms x (Qv9 xs k)
end
def nmsS:List (Nat×EV)→List Nat
 | []=>[]
 | p::l=>p.2.nms (nmsS l)
def EB.nms:EB→List Nat→List Nat
 | .box cells _,k=>Qv9 cells k
 | .it m _ _ _,k=>m::k
 | .ra _ _ _ _ ns,k=>ns++k
 | _,k=>k
def QsZ (hp:List (Nat×EB)):Nat→List Nat→List Nat→List Nat
 | 0,_,seen=>seen
 | _+1,[],seen=>seen
 | f+1,q::todo,seen=>bif Q9 q seen then QsZ hp f todo seen else QsZ hp f ((ob_ hp q).nms todo) (q::seen)
def Qs0:List Nat→(List Nat→Prop)→Prop
 | [],k=>k []
 | x::l,k=>Qs0 l (fun m=>k (x::m))
theorem Qi4:∀ (l:List Nat) (k:List Nat→Prop),Qs0 l k=k l
 | [],k=>rfl
 | x::l,k=>Qi4 l _
def pkH (hp:List (Nat×EB)):List Nat→List (Nat×EB)
 | []=>[]
 | r::l=>(r,look .dead hp r)::pkH hp l
def needB:Op→Bool
 | .load _ _=>true
 | .store _ _ _=>true
 | .slice _ _ _ _ _=>true
 | .convert _ _ _=>true
 | .call _=>true
 | .lookup _ _ _ _=>true
 | .mapUpdate _ _ _ _=>true
 | .range _ _=>true
 | _=>false
def Qs1 (ops:Array Oper) (o:Oper) (l:List Nat):List Nat :=
 match o.guard with
 | some (j,_)=>match (ops[j]?).bind (·.dst) with
  | some s=>s::l
  | none=>l
 | none=>l
def Qwa:Op→Bool
 | .call c=>match c.callee with
  | .value _=>true
  | _=>false
 | .makeFunc _ _ _=>true
 | .entry _=>true
 | _=>false
def tbOf (sl:List (Nat×EV)) (hp:List (Nat×EB)) (rd:List Nat) (o:Oper):List Nat :=
 match Qwa o.op with
 | true=>QsZ hp 60 (nmsS (pkV sl rd)) []
 | false=>bif needB o.op then nmsS (pkV sl rd) else []
def nwK (bs:List (Nat×EB)):List (Nat×EB)→(List Nat→Prop)→Prop
 | [],k=>k []
 | p::l,k=>bif (ob_ bs p.1).alive then nwK bs l k else nwK bs l (fun m=>k (p.1::m))
def nwL (bs:List (Nat×EB)):List (Nat×EB)→List Nat
 | []=>[]
 | p::l=>bif (ob_ bs p.1).alive then nwL bs l else p.1::nwL bs l
theorem Qm8 (bs:List (Nat×EB)):∀ (l:List (Nat×EB)) (k:List Nat→Prop),nwK bs l k=k (nwL bs l)
 | [],k=>rfl
 | p::l,k=>by
  unfold nwK nwL
  cases (ob_ bs p.1).alive with
  | true=>exact Qm8 bs l _
  | false=>exact Qm8 bs l _
def frN (st:ES) (kp:List Nat):List Nat→Bool
 | []=>true
 | r::l=>st.free kp r && frN st kp l
def goD (kp:List Nat) (m i:Nat) (rd tb:List Nat) (es:List EF) (sl:List (Nat×EV)) (hp:List (Nat×EB)) (K:List EF→ES→Prop):Option RS→Prop
 | some ⟨C,rs,rh⟩=>QgY (fun rs=>QgY (fun rh=>nwK (pkH hp tb) rh (fun nw =>
   bif frN ⟨sl,hp⟩ kp nw && Qec m ⟨rs,rh,rd,tb,nw⟩ i es then obA C (QgY (fun s=>QgY (fun h=>K (⟨rs,rh,rd,tb,nw⟩::es) ⟨s,h⟩) hp rh) sl rs) else False)) [] rh) [] rs
 | none=>False
section
variable (P:Program) (kp:List Nat) (n:Nat) (tab:TT) (H:Hi) (ops:Array Oper)
def Qep:List Oper→List Nat→Nat→List EF→ES→(ES→Prop)→Prop
 | [],_,_,_,st,K=>K st
 | _::_,[],_,_,_,_=>False
 | o::os,m::ms,i,es,⟨sl,hp⟩,K=>bif XR o.dst n then
   Qs0 (Qs1 ops o (Q3 o.op.operands.toList)) (fun rd=>Qs0 (tbOf sl hp rd o) (fun tb =>
   match Qhy (pkV sl rd) o with
   | some (f,args,ce)=>match o.guard with
    | none=>∃ hin a5s hout res,Cf P f hin a5s hout res∧goD kp m i rd tb es sl hp (fun es' st'=>Qep os ms (i+1) es' st' K) (Qea H.bo (pkV sl rd) (pkH hp tb) o.dst args (ceL ce) hin a5s hout res)
    | some (j,want)=>match ce,o.dst,Yv ops (pkV sl rd) j want with
     | none,some d,some c=>∃ a5s res,(match Qhz (Q9 d H.bo) (WI (pkV (pkV sl rd) (Q3 args))) (pkH hp tb) args a5s res with
      | some C=>((c=true→Cf P f [] a5s [] res)∧obA (Qeo (c=true) (WJ (pkV (pkV sl rd) (Q3 o.op.operands.toList))++C)) (goD kp m i rd tb es sl hp (fun es' st'=>Qep os ms (i+1) es' st' K) (some ⟨[],[(d,.cnd c res)],[]⟩)))
      | none=>False)
     | _,_,_=>False
   | none=>match QkT tab (pkV sl rd) o with
    | some _=>False
    | none=>goD kp m i rd tb es sl hp (fun es' st'=>Qep os ms (i+1) es' st' K) (QcI tab H ops (pkV sl rd) (pkH hp tb) o))) else False
end
theorem JP {vs:List (Nat×EV)} {t:Nat}:∀ {l:List Nat},t∈l→look EV.any (pkV vs l) t=look EV.any vs t
 | s::l,h=>by
  simp only [pkV,Qb];split
  ·next e=>subst e;rfl
  ·next e =>
   rcases Qy9.1 h with h | h
   ·exact absurd h.symm e
   ·exact JP h
theorem QcK {vs:List (Nat×EV)} {t:Nat}:∀ {l:List Nat},t ∉ l→look EV.any (pkV vs l) t=.any
 | [],_=>rfl
 | s::l,h=>by
  simp only [pkV,Qb];simp only [Qy9,not_or] at h;rw [if_neg (fun e=>h.1 e.symm)];exact QcK h.2
theorem QcL {hp:List (Nat×EB)} {t:Nat}:∀ {l:List Nat},t∈l→look EB.dead (pkH hp l) t=look EB.dead hp t
 | s::l,h=>by
  simp only [pkH,Qb];split
  ·next e=>subst e;rfl
  ·next e =>
   rcases Qy9.1 h with h | h
   ·exact absurd h.symm e
   ·exact QcL h
theorem JQ {hp:List (Nat×EB)} {t:Nat}:∀ {l:List Nat},t ∉ l→look EB.dead (pkH hp l) t=.dead
 | [],_=>rfl
 | s::l,h=>by
  simp only [pkH,Qb];simp only [Qy9,not_or] at h;rw [if_neg (fun e=>h.1 e.symm)];exact JQ h.2
theorem Qyf {cur st:ES} {rd tb:List Nat} (h1:∀ s∈rd,look EV.any st.slots s=look EV.any cur.slots s) (h2:∀ r∈tb,look EB.dead st.heap r=look EB.dead cur.heap r):Sub (pkV cur.slots rd) (pkH cur.heap tb) st:=by
 refine ⟨fun x=>?_,fun r=>?_⟩
 ·cases x with
  | tmp t =>
   show look EV.any (pkV cur.slots rd) t=.any∨look EV.any st.slots t=look EV.any (pkV cur.slots rd) t;by_cases h:t∈rd
   ·exact .inr (by rw [JP h,h1 t h])
   ·exact .inl (QcK h)
  | const c=>exact .inr rfl
  | func f=>exact .inr rfl
  | global g=>exact .inl rfl
 ·show look EB.dead (pkH cur.heap tb) r=.dead∨look EB.dead st.heap r=look EB.dead (pkH cur.heap tb) r;by_cases h:r∈tb
  ·exact .inr (by rw [QcL h,h2 r h])
  ·exact .inl (JQ h)
theorem Qyg {ops:Array Oper} {o:Oper} {l:List Nat} {s:Nat} (h:s∈l):s∈Qs1 ops o l:=by
 unfold Qs1;split
 ·split
  ·exact Qzh _ h
  ·exact h
 ·exact h
theorem Qm9 {bs:List (Nat×EB)} {r:Nat}:∀ {l:List (Nat×EB)},r∈nwL bs l→QU r l=true∧(ob_ bs r).alive=false
 | [],h=>by cases h
 | (k,x)::l,h=>by
  unfold nwL at h
  cases ha:(ob_ bs k).alive with
  | true =>
   rw [ha] at h;have:=Qm9 (bs:=bs) (l:=l) h;exact ⟨by simp [QU,this.1],this.2⟩
  | false =>
   rw [ha] at h;simp only [cond_false,Qy9] at h;rcases h with rfl | h
   ·exact ⟨by simp [QU],ha⟩
   ·have:=Qm9 h;exact ⟨by simp [QU,this.1],this.2⟩
theorem Qi5 {bs:List (Nat×EB)} {r:Nat}:∀ {l:List (Nat×EB)},QU r l=true→(ob_ bs r).alive=true∨r∈nwL bs l
 | [],h=>by cases h
 | (k,x)::l,h=>by
  simp only [QU,Qy7] at h;unfold nwL;rcases h with h | h
  ·have:=Qe h;subst this
   cases ha:(ob_ bs k).alive with
   | true=>exact .inl rfl
   | false=>exact .inr (by simp)
  ·rcases Qi5 (bs:=bs) h with h1 | h1
   ·exact .inl h1
   ·refine .inr ?_
    cases ha:(ob_ bs k).alive with
    | true=>exact h1
    | false=>exact Qzh _ h1
theorem Qs2 {st:ES} {kp:List Nat}:∀ {l:List Nat},frN st kp l=true → ∀ r∈l,st.free kp r=true
 | [],_,r,h=>by cases h
 | q::l,h,r,hr=>by
  simp only [frN,Qy6] at h;rcases Qy9.1 hr with e | e
  ·rw [e];exact h.1
  ·exact Qs2 h.2 r e
theorem QhF {α:Type} {p:Nat×α}:∀ {l:List (Nat×α)},p∈l→QU p.1 l=true
 | q::l,h=>by
  simp only [QU,Qy7];rcases Qy9.1 h with e | e
  ·subst e;exact .inl (Nat.beq_refl _)
  ·exact .inr (QhF e)
section
variable {P:Program} {E:Env} {kp:List Nat} {n:Nat} {ops:Array Oper} {tab:TT} {H:Hi}
theorem Qyh {m i:Nat} {rd tb:List Nat} {es:List EF} {st:ES} {K:List EF→ES→Prop} {R:Option RS} (h:goD kp m i rd tb es st.slots st.heap K R) :
  ∃ R' nw,R=some R'∧(∀ c∈R'.C,c)∧(∀ r∈nw,st.free kp r=true∧QU r R'.hp=true)∧(∀ r,QU r R'.hp=true→r∈tb∨r∈nw)∧(∀ p∈R'.hp,(ob_ (pkH st.heap tb) p.1).alive=true∨p.1∈nw) ∧
   Qec m ⟨R'.sl,R'.hp,rd,tb,nw⟩ i es=true∧K (⟨R'.sl,R'.hp,rd,tb,nw⟩::es) ⟨R'.sl++st.slots,R'.hp++st.heap⟩:=by
 unfold goD at h;split at h
 ·next C rs rh =>
  rw [YP,List.append_nil,YP,List.append_nil,Qm8] at h
  cases hb:frN ⟨st.slots,st.heap⟩ kp (nwL (pkH st.heap tb) rh) && Qec m ⟨rs,rh,rd,tb,nwL (pkH st.heap tb) rh⟩ i es with
  | false=>rw [hb] at h;exact h.elim
  | true =>
   rw [hb] at h;obtain ⟨h1,h2⟩:=JM h;rw [YP,YP] at h2;rw [Qy6] at hb
   have hal:∀ r,(ob_ (pkH st.heap tb) r).alive=true→r∈tb:=fun r hr=>by
    refine Classical.byContradiction fun hn=>?_;have:ob_ (pkH st.heap tb) r=.dead:=JQ hn;rw [this] at hr;cases hr
   refine ⟨⟨C,rs,rh⟩,nwL (pkH st.heap tb) rh,rfl,h1,fun r hr=>⟨Qs2 hb.1 r hr,(Qm9 hr).1⟩,fun r hr=>?_,fun p hp=>Qi5 (QhF hp),hb.2,h2⟩;rcases Qi5 (bs:=pkH st.heap tb) hr with h3 | h3
   ·exact .inl (hal r h3)
   ·exact .inr h3
 ·exact h.elim
theorem Qed {q:Operand} {a:Array Operand} {T:Array TypeId} {s:Nat} (h:s∈Q3 (q::a.toList)):s∈Q3 (Op.call { callee:=.value q,args:=a,argTypes:=T }).operands.toList:=by
 have e:(Op.call { callee:=.value q,args:=a,argTypes:=T }).operands.toList=q::a.toList:=by simp [Op.operands,Call.operands]
 rw [e];exact h
theorem QhG {α:Type} {l:List α} {i:Nat} {x:α} {r:List α} (h:l.drop i=x::r):l[i]? = some x∧l.drop (i+1)=r:=by
 have h1:(l.drop i)[0]? = some x:=by rw [h];rfl
 have h2:(l.drop i).drop 1=r:=by rw [h];rfl
 rw [List.getElem?_drop] at h1;rw [List.drop_drop] at h2;exact ⟨by simpa using h1,h2⟩
theorem QoP (hP:tab.ok P) {mA:List Nat} {b:ES}:∀ (os:List Oper) (ms:List Nat) (i:Nat) (es:List EF) (st:ES) (K:ES→Prop),Qep P kp n tab H ops os ms i es st K →
  ops.toList.drop i=os→mA.drop i=ms→i≤ops.size→es.length=i→Qqi P E kp n ops mA b es→st=Qf6 b es→∃ es',Qqi P E kp n ops mA b es'∧es'.length=ops.size∧K (Qf6 b es')
 | [],ms,i,es,st,K,h,ho,_,hi,hl,hg,hst=>by
  unfold Qep at h;subst hst;refine ⟨es,hg,?_,h⟩;have h1:=List.drop_eq_nil_iff.1 ho;simp at h1;omega
 | o::os,[],i,es,st,K,h,_,_,_,_,_,_=>by unfold Qep at h;exact h.elim
 | o::os,m::ms,i,es,⟨sl,hp⟩,K,h,ho,hm,hi,hl,hg,hst=>by
  unfold Qep at h
  let st:ES:=⟨sl,hp⟩
  have hst':Qf6 b es=st:=hst.symm;obtain ⟨ho1,ho2⟩:=QhG ho;obtain ⟨hm1,hm2⟩:=QhG hm
  have hi1:i < ops.size:=by
   have:=(List.getElem?_eq_some_iff.1 ho1).1;simpa using this
  have hoi:ops[i]? = some o:=by simpa using ho1
  have hmi:mA.getD i 0=m:=by rw [Qza,hm1];rfl
  cases hds:XR o.dst n with
  | false=>rw [hds] at h;exact h.elim
  | true =>
   rw [hds] at h;simp only [cond_true] at h;rw [Qi4,Qi4] at h;generalize hrd:Qs1 ops o (Q3 o.op.operands.toList)=rd at h;generalize tbOf sl hp rd o=tb at h;have hmem:∀ s∈Q3 o.op.operands.toList,s∈rd:=fun s hs=>by rw [← hrd];exact Qyg hs
   have more:∀ {R:Option RS},goD kp m i rd tb es sl hp (fun es' st'=>Qep P kp n tab H ops os ms (i+1) es' st' K) R →
     (∀ R',R=some R' → ∀ st2:ES,Sub (pkV sl rd) (pkH hp tb) st2→(∀ s∈Q3 o.op.operands.toList,look EV.any (pkV sl rd) s=look EV.any st2.slots s)→(∀ c∈R'.C,c)→(∀ p∈R'.hp,(ob_ (pkH hp tb) p.1).alive=true∨st2.free kp p.1=true)→Qf P E kp n ops o st2.as (R'.app st2).as) →
     ∃ es',Qqi P E kp n ops mA b es'∧es'.length=ops.size∧K (Qf6 b es'):=fun {R} hgo hstep=>by
    obtain ⟨R',nw,e1,hC,hnw,hkey,hal,hpr,hk⟩:=Qyh (st:=st) hgo;refine QoP hP os ms (i+1) _ _ K hk ho2 hm2 hi1 (by simp [hl]) ⟨hg,fun o' ho'=>?_,by rw [hl,hmi];exact hpr⟩ ?_
    ·rw [hl,hoi] at ho';cases ho';rw [hst'];refine ⟨fun st2 h1 h2 h3=>?_,hnw,hkey⟩;refine hstep R' e1 st2 (Qyf h1 h2) (fun s hs=>?_) hC (fun p hp'=>?_)
     ·rw [JP (hmem s hs)];exact (h1 s (hmem s hs)).symm
     ·rcases hal p hp' with h4 | h4
      ·exact .inl h4
      ·exact .inr (h3 _ h4)
    ·show (⟨R'.sl++st.slots,R'.hp++st.heap⟩:ES)=⟨R'.sl++(Qf6 b es).slots,R'.hp++(Qf6 b es).heap⟩;rw [hst']
   split at h
   ·next f args ce hce =>
    rcases QkY hce with ⟨rfl,hc⟩ | ⟨rfl,hc⟩ | ⟨l,rfl,hc⟩
    ·obtain ⟨a,T,hop,ha⟩:=QhB hc;obtain ⟨dst,op,ty,ps,af,gd⟩:=o;simp only at hop h hds;subst hop ha;split at h
     ·obtain ⟨hin,a5s,hout,res,hev,h⟩:=h;exact more h fun R' e1 st2 S hv hC hf=>Qk1 S hev e1 hC hf (Jj hds)
     ·next j want =>
     split at h
     ·next d c _ hgb =>
      obtain ⟨a5s,res,h⟩:=h;split at h
      ·next C hfit =>
       obtain ⟨h1,h2⟩:=h;obtain ⟨h3,h2⟩:=JM h2
       exact more h2 fun R' e1 st2 S hv hC hf=>by
        cases e1;exact Qbf (q:=.func f) S (.inl rfl) (fun s hs=>hv s (Qed hs)) hgb hds hfit h1 h3
      ·exact h.elim
     ·exact h.elim
    ·obtain ⟨t,a,T,j',w',hop,hgd,ha,hq⟩:=QkZ hc;obtain ⟨dst,op,ty,ps,af,gd⟩:=o;simp only at hop h hds hgd;subst hop ha hgd;split at h
     ·next hgn=>cases hgn
     ·next j want hgn =>
     cases hgn;split at h
     ·next d c _ hgb =>
      obtain ⟨a5s,res,h⟩:=h;split at h
      ·next C hfit =>
       obtain ⟨h1,h2⟩:=h;obtain ⟨h3,h2⟩:=JM h2
       exact more h2 fun R' e1 st2 S hv hC hf=>by
        cases e1;exact Qbf (q:=.tmp t) S (.inr ⟨t,rfl,hq⟩) (fun s hs=>hv s (Qed hs)) hgb hds hfit h1 h3
      ·exact h.elim
     ·exact h.elim
    ·obtain ⟨t,a,T,hop,ha,hl,hs⟩:=QkN hc;obtain ⟨dst,op,ty,ps,af,gd⟩:=o;simp only at hop h hds;subst hop ha;split at h
     ·obtain ⟨hin,a5s,hout,res,hev,h⟩:=h;exact more h fun R' e1 st2 S hv hC hf=>QhC S hev hl hs e1 hC hf (Jj hds)
     ·exact h.elim
   ·split at h
    ·exact h.elim
    ·exact more h fun R' e1 st2 S hv hC hf=>QkX S hv hP e1 hC hf hds
def DD (P:Program) (kp:List Nat) (n:Nat) (tab:TT) (H:Hi):Nat→Array Oper→ES→(ES→Prop)→Prop :=
 fun _ ops st K=>∃ ms:List Nat,VF ops ms ops.size=true∧Qep P kp n tab H ops ops.toList ms 0 [] st K
theorem DD_ok (hP:tab.ok P) (hx:P.follows .mixedOrders=true):DOk P kp n (DD P kp n tab H):=by
 intro E id ops st K Q ⟨ms,h1,h2⟩ hK;obtain ⟨es,g1,g2,g3⟩:=QoP (E:=E) (mA:=ms) (b:=st) hP ops.toList ms 0 [] st K h2 rfl rfl (Nat.zero_le _) rfl trivial rfl;exact QsY hx h1 g1 g2 (hK _ g3)
end
end
section
open Go.RowKit
def obR (C:List Prop) (K:Prop):Prop:=Qze (motive:=fun _=>Prop) K (fun c _ ih=>Ob c ih) C
theorem QbS (K:Prop):∀ C:List Prop,obR C K=obA C K
 | []=>rfl
 | c::cs=>congrArg (Ob c) (QbS K cs)
def Qf7 {α:Type} (k:List α→Prop) (m:List α) (l:List α):Prop:=Qze (motive:=fun _=>(List α→Prop)→Prop) (fun k=>k m) (fun x _ ih k=>ih (fun m'=>k (x::m'))) l k
theorem Qwb {α:Type} (m:List α):∀ (l:List α) (k:List α→Prop),Qf7 k m l=QgY k m l
 | [],k=>rfl
 | x::l,k=>Qwb m l (fun m'=>k (x::m'))
theorem QcM {α:Type} (m:List α):∀ (l:List α) (k:List α→Prop),Qf7 k m l=k (l++m)
 | [],k=>rfl
 | x::l,k=>QcM m l (fun m'=>k (x::m'))
def nrmR (l:List Nat) (k:List Nat→Prop):Prop:=Qze (motive:=fun _=>(List Nat→Prop)→Prop) (fun k=>k []) (fun x _ ih k=>ih (fun m=>k (x::m))) l k
theorem QoQ:∀ (l:List Nat) (k:List Nat→Prop),nrmR l k=Qs0 l k
 | [],k=>rfl
 | x::l,k=>QoQ l (fun m=>k (x::m))
def nwR (bs:List (Nat×EB)) (l:List (Nat×EB)) (k:List Nat→Prop):Prop:=Qze (motive:=fun _=>(List Nat→Prop)→Prop) (fun k=>k []) (fun p _ ih k=>bif (ob_ bs p.1).alive then ih k else ih (fun m=>k (p.1::m))) l k
theorem Qna (bs:List (Nat×EB)):∀ (l:List (Nat×EB)) (k:List Nat→Prop),nwR bs l k=nwK bs l k
 | [],k=>rfl
 | p::l,k=>by
  show (bif (ob_ bs p.1).alive then nwR bs l k else nwR bs l (fun m=>k (p.1::m)))=(bif (ob_ bs p.1).alive then nwK bs l k else nwK bs l (fun m=>k (p.1::m)));rw [Qna,Qna]
def Qs3 (kp:List Nat) (sl:List (Nat×EV)) (hp:List (Nat×EB)) (K:ES→Prop):Option RS→Prop
 | some ⟨C,rs,rh⟩=>bif Qqf hp ⟨sl,hp⟩ kp rh then obR C (Qf7 (fun s=>Qf7 (fun h=>K ⟨s,h⟩) hp rh) sl rs) else False
 | none=>False
theorem Qwc {kp:List Nat} {sl:List (Nat×EV)} {hp:List (Nat×EB)} {K:ES→Prop} (R:Option RS):Qs3 kp sl hp K R=goR kp sl hp K R:=by
 cases R with
 | none=>rfl
 | some R=>simp only [Qs3,goR,QbS,YP,QcM]
def Qs4 (kp:List Nat) (m i:Nat) (rd tb:List Nat) (es:List EF) (sl:List (Nat×EV)) (hp:List (Nat×EB)) (K:List EF→ES→Prop):Option RS→Prop
 | some ⟨C,rs,rh⟩=>Qf7 (fun rs=>Qf7 (fun rh=>nwR (pkH hp tb) rh (fun nw =>
   bif frN ⟨sl,hp⟩ kp nw && Qec m ⟨rs,rh,rd,tb,nw⟩ i es then obR C (Qf7 (fun s=>Qf7 (fun h=>K (⟨rs,rh,rd,tb,nw⟩::es) ⟨s,h⟩) hp rh) sl rs) else False)) [] rh) [] rs
 | none=>False
theorem Qwd {kp:List Nat} {m i:Nat} {rd tb:List Nat} {es:List EF} {sl:List (Nat×EV)} {hp:List (Nat×EB)} {K:List EF→ES→Prop} (R:Option RS):Qs4 kp m i rd tb es sl hp K R=goD kp m i rd tb es sl hp K R:=by
 cases R with
 | none=>rfl
 | some R=>simp only [Qs4,goD,QbS,YP,QcM,Qna]
section
variable (P:Program) (kp:List Nat) (n:Nat) (tab:TT) (H:Hi) (ops:Array Oper)
def Qs5 (o:Oper) (next:ES→Prop):ES→Prop
 | ⟨sl,hp⟩=>bif XR o.dst n then (match Qhy sl o with
  | some (f,args,ce)=>match o.guard with
   | none=>∃ hin a5s hout res,Cf P f hin a5s hout res∧Qs3 kp sl hp next (Qea H.bo sl hp o.dst args (ceL ce) hin a5s hout res)
   | some (j,want)=>match ce,o.dst,Yv ops sl j want with
    | none,some d,some c=>∃ a5s res,(match Qhz (Q9 d H.bo) (WI (pkV sl (Q3 args))) hp args a5s res with
     | some C=>((c=true→Cf P f [] a5s [] res)∧obR (Qeo (c=true) (WJ (pkV sl (Q3 o.op.operands.toList))++C)) (next ⟨(d,.cnd c res)::sl,hp⟩))
     | none=>False)
    | _,_,_=>False
  | none=>match QoF sl hp o with
   | some (d,r,q,since,s,last,es)=>Ob (since=es.length∧last=es.length) ((∀ i:Nat,i < es.length→¬ i∈s→next ⟨(d,.tup [.b true,.any,.any])::sl,(r,.it q since (i::s) last)::hp⟩)∧((∀ i:Nat,i < es.length→i∈s)→next ⟨(d,.tup [.b false])::sl,hp⟩))
   | none=>match QkT tab sl o with
   | some (d,m)=>∀ g:Bool,(g=true→m=0)→next ⟨(d,.b g)::sl,hp⟩
   | none=>match o.dst with
    | some d=>bif Q9 d H.man then (∃ st':ES,(∀ E,Qf P E kp n ops o (ES.as ⟨sl,hp⟩) st'.as)∧next st') else Qs3 kp sl hp next (QcI tab H ops sl hp o)
    | none=>Qs3 kp sl hp next (QcI tab H ops sl hp o)) else False
def QoR (os:List Oper) (st:ES) (K:ES→Prop):Prop:=Qze (motive:=fun _=>ES→Prop) K (fun o _ ih=>Qs5 P kp n tab H ops o ih) os st
theorem Qk9 (K:ES→Prop):∀ (os:List Oper) (st:ES),QoR P kp n tab H ops os st K=QcJ P kp n tab H ops os st K
 | [],st=>rfl
 | o::os,⟨sl,hp⟩=>by
  have e:(fun st'=>QoR P kp n tab H ops os st' K)=fun st'=>QcJ P kp n tab H ops os st' K:=funext fun st'=>Qk9 K os st';show Qs5 P kp n tab H ops o (fun st'=>QoR P kp n tab H ops os st' K) ⟨sl,hp⟩=_;rw [e];simp only [Qs5,Qwc,QbS];rfl
def Qs6 (o:Oper) (next:List Nat→Nat→List EF→ES→Prop):List Nat→Nat→List EF→ES→Prop
 | [],_,_,_=>False
 | m::ms,i,es,⟨sl,hp⟩=>bif XR o.dst n then
   nrmR (Qs1 ops o (Q3 o.op.operands.toList)) (fun rd=>nrmR (tbOf sl hp rd o) (fun tb =>
   match Qhy (pkV sl rd) o with
   | some (f,args,ce)=>match o.guard with
    | none=>∃ hin a5s hout res,Cf P f hin a5s hout res∧Qs4 kp m i rd tb es sl hp (next ms (i+1)) (Qea H.bo (pkV sl rd) (pkH hp tb) o.dst args (ceL ce) hin a5s hout res)
    | some (j,want)=>match ce,o.dst,Yv ops (pkV sl rd) j want with
     | none,some d,some c=>∃ a5s res,(match Qhz (Q9 d H.bo) (WI (pkV (pkV sl rd) (Q3 args))) (pkH hp tb) args a5s res with
      | some C=>((c=true→Cf P f [] a5s [] res)∧obR (Qeo (c=true) (WJ (pkV (pkV sl rd) (Q3 o.op.operands.toList))++C)) (Qs4 kp m i rd tb es sl hp (next ms (i+1)) (some ⟨[],[(d,.cnd c res)],[]⟩)))
      | none=>False)
     | _,_,_=>False
   | none=>match QkT tab (pkV sl rd) o with
    | some _=>False
    | none=>Qs4 kp m i rd tb es sl hp (next ms (i+1)) (QcI tab H ops (pkV sl rd) (pkH hp tb) o))) else False
def QoS (os:List Oper) (ms:List Nat) (i:Nat) (es:List EF) (st:ES) (K:ES→Prop):Prop :=
 Qze (motive:=fun _=>List Nat→Nat→List EF→ES→Prop) (fun _ _ _ st=>K st) (fun o _ ih=>Qs6 P kp n tab H ops o ih) os ms i es st
theorem Qla (K:ES→Prop):∀ (os:List Oper) (ms:List Nat) (i:Nat) (es:List EF) (st:ES),QoS P kp n tab H ops os ms i es st K=Qep P kp n tab H ops os ms i es st K
 | [],ms,i,es,st=>by unfold Qep;rfl
 | o::os,[],i,es,st=>rfl
 | o::os,m::ms,i,es,⟨sl,hp⟩=>by
  have e:(fun ms i es st'=>QoS P kp n tab H ops os ms i es st' K)=fun ms i es st'=>Qep P kp n tab H ops os ms i es st' K:=by
   funext ms i es st';exact Qla K os ms i es st'
  show Qs6 P kp n tab H ops o (fun ms i es st'=>QoS P kp n tab H ops os ms i es st' K) (m::ms) i es ⟨sl,hp⟩=_;rw [e];simp only [Qs6,Qwd,QbS,QoQ];rfl
end
def DR (P:Program) (kp:List Nat) (n:Nat) (tab:TT) (H:Hi):Nat→Array Oper→ES→(ES→Prop)→Prop :=
 fun _ ops st K=>∃ ms:List Nat,VF ops ms ops.size=true∧QoS P kp n tab H ops ops.toList ms 0 [] st K
theorem DR_eq {P:Program} {kp:List Nat} {n:Nat} {tab:TT} {H:Hi}:DR P kp n tab H=DD P kp n tab H:=by
 funext i ops st K
 simp only [DR,DD,Qla]
theorem DR_ok {P:Program} {kp:List Nat} {n:Nat} {tab:TT} {H:Hi} (hP:tab.ok P) (hx:P.follows .mixedOrders=true):DOk P kp n (DR P kp n tab H):=by rw [DR_eq];exact DD_ok hP hx
def Qql (kp:List Nat) (st st':ES):Prop:=match wkF kp st st' with
 | some C=>obR C True
 | none=>False
theorem Qi6 (kp:List Nat) (st st':ES):Qql kp st st'=WkG kp st st':=by
 simp only [Qql,WkG,QbS] <;> rfl
section
variable (P:Program) (kp:List Nat) (n:Nat) (tab:TT) (H:Hi) (D:Nat→Array Oper→ES→(ES→Prop)→Prop)
def seqK (nx:ES→Prop) (K:Exit→ES→Prop):Exit→ES→Prop:=fun e st'=>match e with
 | .normal=>nx st'
 | e=>K e st'
def blkK (id:Nat) (K:Exit→ES→Prop):Exit→ES→Prop:=fun e st'=>match e with
 | .exit i=>bif Nat.beq i id then K .normal st' else K (.exit i) st'
 | e=>K e st'
def Qwe (kp:List Nat) {α:Type} (I:α→ES) (ok:α→Prop) (μ:α→Nat) (x:α) (K:Exit→ES→Prop):Exit→ES→Prop:=fun e st'=>match e with
 | .normal=>∃ y,ok y∧μ y < μ x∧Qql kp st' (I y)
 | e=>K e st'
def Qwf (id:Nat) (ops:Array Oper) (draw:Bool) (K:Exit→ES→Prop) (st:ES):Prop:=match draw with
  | false=>QoR P kp n tab H ops ops.toList st (K .normal)
  | true=>D id ops st (K .normal)
def regR (id:Nat) (ops:Array Oper) (draw:Bool) (K:Exit→ES→Prop) (st:ES):Prop :=
 bif Q9 id H.cu then (∃ st':ES,Qql kp st st'∧Qwf P kp n tab H D id ops draw K st') else Qwf P kp n tab H D id ops draw K st
def cndR (c:Operand) (a b:ES→Prop) (st:ES):Prop:=match Qw st.slots c with
  | .v (.bool g)=>(g=true→a st)∧(g=false→b st)
  | _=>False
def wpR (c:Code) (K:Exit→ES→Prop) (st:ES):Prop :=
 Code.rec (motive:=fun _=>(Exit→ES→Prop)→ES→Prop)
  (fun K st=>K .normal st)
  (fun id ops draw K st=>regR P kp n tab H D id ops draw K st)
  (fun _ _ ia ib K st=>ia (seqK (ib K) K) st)
  (fun c _ _ ia ib K st=>cndR c (ia K) (ib K) st)
  (fun id _ ic K st=>ic (blkK id K) st)
  (fun _ ic K st=>∃ (α:Type) (I:α→ES) (ok:α→Prop) (μ:α→Nat) (x0:α),ok x0∧Qql kp st (I x0) ∧ ∀ x,ok x→ic (Qwe kp I ok μ x K) (I x))
  (fun _ _ _ _ _ _ _ _=>False)
  (fun id K st=>K (.exit id) st)
  (fun _ _ _ _=>False)
  (fun _ _ _=>False)
  (fun _ _ _=>False)
  (fun K st=>K .ret st)
  (fun _ _ _=>False) c K st
theorem QbT:∀ (c:Code) (K:Exit→ES→Prop) (st:ES),wpR P kp n tab H D c K st=wpC P kp n tab H D c K st
 | .skip,K,st=>rfl
 | .region id ops draw,K,st=>by
  show regR P kp n tab H D id ops draw K st=_
  have e:∀ st:ES,Qwf P kp n tab H D id ops draw K st=Qv6 P kp n tab H D id ops st (K .normal) draw:=fun st=>by
   unfold Qwf
   cases draw with
   | false=>exact Qk9 ..
   | true=>rfl
  unfold wpC regR
  cases Q9 id H.cu with
  | true =>
   simp only [cond_true,Qi6,e]
  | false=>exact e st
 | .seq a b,K,st=>by
  show wpR P kp n tab H D a (seqK (wpR P kp n tab H D b K) K) st=_;rw [QbT a,show wpR P kp n tab H D b K=wpC P kp n tab H D b K from funext (QbT b K)];show _=wpC P kp n tab H D a _ st;congr 1
 | .cond c a b,K,st=>by
  show cndR c (wpR P kp n tab H D a K) (wpR P kp n tab H D b K) st=_;rw [show wpR P kp n tab H D a K=wpC P kp n tab H D a K from funext (QbT a K),show wpR P kp n tab H D b K=wpC P kp n tab H D b K from funext (QbT b K)];rfl
 | .block id c,K,st=>by
  show wpR P kp n tab H D c (blkK id K) st=_;rw [QbT c];show _=wpC P kp n tab H D c _ st;congr 1
 | .loop c,K,st=>by
  show (∃ (α:Type) (I:α→ES) (ok:α→Prop) (μ:α→Nat) (x0:α),ok x0∧Qql kp st (I x0) ∧ ∀ x,ok x→wpR P kp n tab H D c (Qwe kp I ok μ x K) (I x))=_
  have e:∀ (α:Type) (I:α→ES) (ok:α→Prop) (μ:α→Nat) (x:α),wpR P kp n tab H D c (Qwe kp I ok μ x K) (I x)=wpC P kp n tab H D c (fun e st'=>match e with | .normal=>∃ y,ok y∧μ y < μ x∧WkG kp st' (I y) | e=>K e st') (I x):=by
   intro α I ok μ x;rw [QbT c];congr 1
   funext e st'
   unfold Qwe;cases e <;> simp only [Qi6]
  simp only [e,Qi6];rfl
 | .rangeFunc _ _ _ _,K,st=>rfl
 | .exit id,K,st=>rfl
 | .scope _,K,st=>rfl
 | .label _,K,st=>rfl
 | .goto _,K,st=>rfl
 | .ret,K,st=>rfl
 | .refuse _,K,st=>rfl
end
def QoT (tab:TT) (kp:List Nat) (rs:List ResultVar) (hout:List (Nat×EB)) (res:EV) (st:ES):Prop :=
 match Qg1 tab st rs with
 | none=>False
 | some l=>match cvE st.heap (Qqh l) res with
  | none=>False
  | some (C0,z,F)=>match fit (idK hout kp) z res with
   | none=>False
   | some (C1,τ)=>match Qg0 (F++st.heap) τ hout with
    | none=>False
    | some (C2,σ)=>bif Qm0 kp σ && ZR (idK hout kp) && ndB st.heap F then obR (C0++(C1++C2)) True else False
theorem Qs7 (tab:TT) (kp:List Nat) (rs:List ResultVar) (hout:List (Nat×EB)) (res:EV) (st:ES):QoT tab kp rs hout res st=Qk2 tab kp rs hout res st:=by
 simp only [QoT,Qk2,QbS] <;> rfl
def Qs8 (tab:TT) (kp:List Nat) (rs:List ResultVar) (hout:List (Nat×EB)) (res:EV):Exit→ES→Prop:=fun e st=>match e with
 | .ret=>QoT tab kp rs hout res st
 | .normal=>QoT tab kp rs hout res st
 | _=>False
theorem gx {P:Program} {f:FuncId} {ags:List EV} {res:EV} {c:Bool} {Q:List EV→EV→Prop} (k:c=true→Cf P f [] ags [] res) (h:(c=true→Cf P f [] ags [] res)→Q ags res):∃ ags res,Q ags res:=⟨ags,res,h k⟩
theorem bsX:(∀ b:Bool,((!b)=true)=(b=false))∧(∀ b:Bool,((!b)=false)=(b=true))∧((!true)=false)∧((!false)=true)∧(∀ a b:Bool,((a && b)=true)=(a=true∧b=true))∧(∀ a b:Bool,((a || b)=true)=(a=true∨b=true))∧(∀ a b:Bool,((a && b)=false)=(a=false∨b=false))∧(∀ a b:Bool,((a || b)=false)=(a=false∧b=false))∧(∀ b:Bool,(!!b)=b)∧(∀ b:Bool,(b == true)=b)∧(∀ b:Bool,(b == false) = !b)∧(∀ (p:Prop) [Decidable p],(decide p=true)=p)∧(∀ (p:Prop) [Decidable p],(decide p=false)=¬p) :=
 ⟨Qy8,Bool.not_eq_false',rfl,rfl,Qy6,Qy7,fun a b=>propext (Bool.and_eq_false_iff),fun a b=>propext (Qzg),Bool.not_not,fun b=>by cases b <;> rfl,fun b=>by cases b <;> rfl,fun p _=>decide_eq_true_eq,fun p _=>propext decide_eq_false_iff_not⟩
theorem knF {A B:Prop} (h:B):(false=true→A)∧(false=false→B):=⟨fun k=>Bool.noConfusion k,fun _=>h⟩
theorem knT {A B:Prop} (h:A):(true=true→A)∧(true=false→B):=⟨fun _=>h,fun k=>Bool.noConfusion k⟩
theorem gx2 {P:Program} {f:FuncId} {ags:List EV} {res:EV} {Q:List EV→EV→Prop} (k:Cf P f [] ags [] res) (h:Cf P f [] ags [] res→Q ags res):∃ ags res,Q ags res:=⟨ags,res,h k⟩
theorem Cf.introR {P:Program} {f m:Nat} {fn:Func} {c:Code} {rs:List ResultVar} {hin hout:List (Nat×EB)} {a5s:List EV} {res:EV} (tab:TT) (H:Hi) (D:Nat→Array Oper→ES→(ES→Prop)→Prop) (hcall:Wp P f=true) (hP:tab.ok P) (hf:P.funcs[f]? = some fn) (hm:fn.ntmps=m) (hb:fn.body=some c) (hr:fn.results=rs.toArray)
  (hD:DOk P (hin.map (·.1)) m D) (hk:Nat.ble a5s.length m=true)
  (h:Qf7 (fun sl=>wpR P (hin.map (·.1)) m tab H D c (Qs8 tab (hin.map (·.1)) rs hout res) ⟨sl,hin⟩) [] (slE 0 a5s)):Cf P f hin a5s hout res:=by
 refine Cf.intro tab H D hcall hP hf hm hb hr hD hk ?_;rw [QcM,QbT] at h;rw [YP]
 have e:Qs8 tab (hin.map (·.1)) rs hout res=fun e st=>match e with | .ret=>Qk2 tab (hin.map (·.1)) rs hout res st | .normal=>Qk2 tab (hin.map (·.1)) rs hout res st | _=>False:=by
  funext e st
  unfold Qs8;cases e <;> simp only [Qs7]
 rw [e] at h;exact h
end
section
abbrev YA (n:Int):Prop:=-9223372036854775808≤n∧n≤9223372036854775807
def pk (n m:Int):Int:=(bif decide (n < 0) then -(n+1) else n) % m
theorem Q0 (n:Int) {m:Int} (h:0 < m):0≤pk n m:=Int.emod_nonneg _ (by omega)
theorem QW (n:Int) {m:Int} (h:0 < m):pk n m < m:=Int.emod_lt_of_pos _ h
def trn (l:List UInt8) (at_:Int) (y:UInt8):List UInt8 :=
 bif decide ((0:Int) < (l.length:Int)) then l.set (pk at_ l.length).toNat (l.getD (pk at_ l.length).toNat 0 ^^^ (if y < 1 then 1 else y)) else l
def dig8:List UInt8:=[50,51,52,53,54,55,56,57]
def W5 (j:Nat):List UInt8:=Go.Lib.repeatL [49,dig8.getD j 0] 32
def QC (n:Int):List UInt8:=W5 (pk n 8).toNat
theorem Xb (n:Int):∃ j,j < 8∧QC n=W5 j∧pk n 8=(j:Int):=by
 have h1:=Q0 n (m:=8) (by decide);have h2:=QW n (m:=8) (by decide);exact ⟨(pk n 8).toNat,by omega,rfl,by omega⟩
theorem Ys:∀ j,j < 8→WA (W5 j)=0:=by decide +kernel
theorem Qwg (n:Int):Go.Lib.repeatL ([49]++(dig8.drop (pk n 8).toNat).take ((pk n 8+1).toNat - (pk n 8).toNat)) 32=QC n:=by
 obtain ⟨j,h,e,h2⟩:=Xb n;unfold QC W5;rw [h2];have e2:((j:Int)+1).toNat - ((j:Int)).toNat=1:=by omega
 rw [e2,Int.toNat_natCast]
 have e3:(dig8.drop j).take 1=[dig8.getD j 0]:=by
  have hl:j < dig8.length:=h;rw [List.drop_eq_getElem_cons hl,Qza,List.getElem?_eq_getElem hl];rfl
 rw [e3];rfl
attribute [irreducible] QC W5 trn
end
section
open Go.RowKit
def setCells (w:World) (b:Nat):Nat→List Value→World
 | _,[]=>w
 | o,x::xs=>setCells (w.setCell ⟨b,o,none⟩ x) b (o+1) xs
end
end Go.Proofs.YtcebndkiagbddaaGreatDoor
namespace Go.Proofs
open Go.Shelf
def Tryz.lays156_ren:Go.Shelf.Ren:=⟨fun | 156=>76 | 165=>122 | 166=>123 | 169=>125 | 240=>168 | 241=>169 | 276=>197 | 277=>198 | n=>n,fun | 31=>96 | 9=>9 | 3=>3 | 4=>4 | 0=>0 | 20=>20 | 72=>204 | 76=>208 | 70=>202 | 37=>155 | 75=>207 | 127=>257 | 164=>283 | 5=>5 | 80=>211 | n=>n,fun | n=>n⟩
theorem Tryz.lays156 : Go.Proofs.Lays.n156 Tryz.prog Tryz.lays156_ren := {
  mixed := by kernel_rfl
  f156 := Tryz.func76.trans (congrArg some (by kernel_rfl))
  f165 := Tryz.func122.trans (congrArg some (by kernel_rfl))
  f166 := Tryz.func123.trans (congrArg some (by kernel_rfl))
  f169 := Tryz.func125.trans (congrArg some (by kernel_rfl))
  f240 := Tryz.func168.trans (congrArg some (by kernel_rfl))
  f241 := Tryz.func169.trans (congrArg some (by kernel_rfl))
  f276 := Tryz.func197.trans (congrArg some (by kernel_rfl))
  f277 := Tryz.func198.trans (congrArg some (by kernel_rfl))
  t0 := Tryz.underlying0
  a0 := Tryz.isAgg0
  z0 := Tryz.sizeOf0
  v0 := Tryz.zeroValue0
  t3 := Tryz.underlying3
  a3 := Tryz.isAgg3
  z3 := Tryz.sizeOf3
  v3 := Tryz.zeroValue3
  t4 := Tryz.underlying4
  a4 := Tryz.isAgg4
  z4 := Tryz.sizeOf4
  v4 := Tryz.zeroValue4
  t9 := Tryz.underlying9
  a9 := Tryz.isAgg9
  z9 := Tryz.sizeOf9
  v9 := Tryz.zeroValue9
  t20 := Tryz.underlying20
  a20 := Tryz.isAgg20
  z20 := Tryz.sizeOf20
  v20 := Tryz.zeroValue20
  t31 := Tryz.underlying96
  a31 := Tryz.isAgg96
  z31 := Tryz.sizeOf96
  v31 := Tryz.zeroValue96
  t37 := Tryz.underlying155
  a37 := Tryz.isAgg155
  z37 := Tryz.sizeOf155
  v37 := Tryz.zeroValue155
  t70 := Tryz.underlying202
  a70 := Tryz.isAgg202
  z70 := Tryz.sizeOf202
  v70 := Tryz.zeroValue202
  t72 := Tryz.underlying204
  a72 := Tryz.isAgg204
  z72 := Tryz.sizeOf204
  v72 := Tryz.zeroValue204
  t75 := Tryz.underlying207
  a75 := Tryz.isAgg207
  z75 := Tryz.sizeOf207
  v75 := Tryz.zeroValue207
  t76 := Tryz.underlying208
  a76 := Tryz.isAgg208
  z76 := Tryz.sizeOf208
  v76 := Tryz.zeroValue208
  t127 := Tryz.underlying257
  a127 := Tryz.isAgg257
  z127 := Tryz.sizeOf257
  v127 := Tryz.zeroValue257
  t164 := Tryz.underlying283
  a164 := Tryz.isAgg283
  z164 := Tryz.sizeOf283
  v164 := Tryz.zeroValue283 }
theorem Tryz.Builder_Extra_156 : Builder.Extra Tryz.prog Tryz.lays156_ren := {
  sizeBuilder := by kernel_rfl
  liesBuilder := by kernel_rfl
  t5 := Tryz.underlying5
  a5 := Tryz.isAgg5
  z5 := Tryz.sizeOf5
  v5 := Tryz.zeroValue5
  infoByte := by kernel_rfl
  cellsByte := by kernel_rfl
  sizeByte := by kernel_rfl
  neB5 := by decide }
open Go.RowKit in
theorem Tryz.strings_Join_none (a:Option Addr) (c:Nat) (sep:ByteArray) (w:World) :
  Calls Tryz.prog 76 #[.slice a 0 c,.string sep] w fun e w'=>e=.returned (.string ⟨#[]⟩)∧w'=w:=Any.strings_Join_none Tryz.lays156 Tryz.Builder_Extra_156 a c sep w
open Go.RowKit in
theorem Tryz.strings_Join (bk o c:Nat) (xs:List ByteArray) (sep:ByteArray) (w:World) (hcells:∀ (j:Nat) x,xs[j]? = some x→w.cell? ⟨bk,o+j,none⟩=some (.string x)) (hbk:bk < w.heap.size) (hN:xs.length≤140737488355328) (hcap:xs.length≤c) (hlen:(Lib.join (xs.map (·.data.toList)) sep.data.toList).length≤140737488355328) :
  Calls Tryz.prog 76 #[.slice (some ⟨bk,o,none⟩) xs.length c,.string sep] w fun e w'=>e=.returned (.string ⟨(Lib.join (xs.map (·.data.toList)) sep.data.toList).toArray⟩)∧Below w.heap.size w w':=Any.strings_Join Tryz.lays156 Tryz.Builder_Extra_156 bk o c xs sep w hcells hbk hN hcap hlen
def Tryz.lays125_ren:Go.Shelf.Ren:=⟨fun | 125=>97 | 128=>142 | 129=>143 | n=>n,fun | 46=>167 | 3=>3 | 51=>34 | 53=>140 | 4=>4 | 5=>5 | 9=>9 | n=>n,fun | n=>n⟩
theorem Tryz.lays125 : Go.Proofs.Lays.n125 Tryz.prog Tryz.lays125_ren := {
  mixed := by kernel_rfl
  f125 := Tryz.func97.trans (congrArg some (by kernel_rfl))
  f128 := Tryz.func142.trans (congrArg some (by kernel_rfl))
  f129 := Tryz.func143.trans (congrArg some (by kernel_rfl))
  t3 := Tryz.underlying3
  a3 := Tryz.isAgg3
  z3 := Tryz.sizeOf3
  v3 := Tryz.zeroValue3
  t4 := Tryz.underlying4
  a4 := Tryz.isAgg4
  z4 := Tryz.sizeOf4
  v4 := Tryz.zeroValue4
  t5 := Tryz.underlying5
  a5 := Tryz.isAgg5
  z5 := Tryz.sizeOf5
  v5 := Tryz.zeroValue5
  t9 := Tryz.underlying9
  a9 := Tryz.isAgg9
  z9 := Tryz.sizeOf9
  v9 := Tryz.zeroValue9
  t46 := Tryz.underlying167
  a46 := Tryz.isAgg167
  z46 := Tryz.sizeOf167
  v46 := Tryz.zeroValue167
  t51 := Tryz.underlying34
  a51 := Tryz.isAgg34
  z51 := Tryz.sizeOf34
  v51 := Tryz.zeroValue34
  t53 := Tryz.underlying140
  a53 := Tryz.isAgg140
  z53 := Tryz.sizeOf140
  v53 := Tryz.zeroValue140 }
theorem Tryz.bits_Len (x:Int) (w:World) (h0:0≤x) (h1:x≤18446744073709551615) :
  Calls Tryz.prog 97 #[.int .u64 x] w fun e w'=>e=.returned (.int .i64 (Lib.bitLen x.toNat))∧w'=w:=Any.bits_Len Tryz.lays125 x w h0 h1
def Tryz.lays213_ren:Go.Shelf.Ren:=⟨fun | 213=>187 | 265=>204 | n=>n,fun | 9=>9 | 3=>3 | n=>n,fun | n=>n⟩
def Tryz.lays106_ren:Go.Shelf.Ren:=⟨fun | 106=>155 | 213=>187 | 265=>204 | n=>n,fun | 9=>9 | 3=>3 | n=>n,fun | n=>n⟩
theorem Tryz.lays106 : Go.Proofs.Lays.n106 Tryz.prog Tryz.lays106_ren := {
  mixed := by kernel_rfl
  f106 := Tryz.func155.trans (congrArg some (by kernel_rfl))
  f213 := Tryz.func187.trans (congrArg some (by kernel_rfl))
  f265 := Tryz.func204.trans (congrArg some (by kernel_rfl))
  t3 := Tryz.underlying3
  a3 := Tryz.isAgg3
  z3 := Tryz.sizeOf3
  v3 := Tryz.zeroValue3
  t9 := Tryz.underlying9
  a9 := Tryz.isAgg9
  z9 := Tryz.sizeOf9
  v9 := Tryz.zeroValue9 }
open Go.RowKit in
theorem Tryz.strings_Compare (a b:ByteArray) (w:World) :
  Calls Tryz.prog 155 #[.string a,.string b] w fun e w'=>e=.returned (.int .i64 (Lib.compareBytes a.data.toList b.data.toList))∧w'=w:=Any.strings_Compare Tryz.lays106 a b w
def Tryz.lays137_ren:Go.Shelf.Ren:=⟨fun | 137=>146 | 217=>182 | 266=>202 | n=>n,fun | 9=>9 | 5=>5 | 3=>3 | n=>n,fun | n=>n⟩
theorem Tryz.lays137 : Go.Proofs.Lays.n137 Tryz.prog Tryz.lays137_ren := {
  mixed := by kernel_rfl
  f137 := Tryz.func146.trans (congrArg some (by kernel_rfl))
  f217 := Tryz.func182.trans (congrArg some (by kernel_rfl))
  f266 := Tryz.func202.trans (congrArg some (by kernel_rfl))
  t3 := Tryz.underlying3
  a3 := Tryz.isAgg3
  z3 := Tryz.sizeOf3
  v3 := Tryz.zeroValue3
  t5 := Tryz.underlying5
  a5 := Tryz.isAgg5
  z5 := Tryz.sizeOf5
  v5 := Tryz.zeroValue5
  t9 := Tryz.underlying9
  a9 := Tryz.isAgg9
  z9 := Tryz.sizeOf9
  v9 := Tryz.zeroValue9 }
open Go.RowKit in
theorem Tryz.strings_IndexByte (s:ByteArray) (c:Int) (w:World) :
  Calls Tryz.prog 146 #[.string s,.int .u8 c] w fun e w'=>e=.returned (.int .i64 (Lib.indexByte s.data.toList c.toNat.toUInt8))∧w'=w:=Any.strings_IndexByte Tryz.lays137 s c w
def Tryz.laysM246_ren:Go.Shelf.Ren:=⟨fun | 246=>164 | 283=>193 | 284=>194 | 285=>195 | 286=>196 | 129=>143 | 317=>210 | 318=>211 | 319=>212 | 320=>213 | 337=>223 | 338=>224 | n=>n,fun | 2=>2 | 3=>3 | 9=>9 | 4=>4 | 171=>279 | 0=>0 | 53=>140 | 37=>155 | 5=>5 | 173=>281 | 212=>294 | 51=>34 | 20=>20 | 213=>295 | 46=>167 | 232=>303 | 233=>304 | n=>n,fun | 17=>1 | 18=>2 | 19=>3 | n=>n⟩
def Tryz.laysM243_ren:Go.Shelf.Ren:=⟨fun | 243=>119 | 246=>164 | 283=>193 | 284=>194 | 285=>195 | 286=>196 | 129=>143 | 317=>210 | 318=>211 | 319=>212 | 320=>213 | 337=>223 | 338=>224 | n=>n,fun | 3=>3 | 9=>9 | 2=>2 | 4=>4 | 171=>279 | 0=>0 | 53=>140 | 37=>155 | 5=>5 | 173=>281 | 212=>294 | 51=>34 | 20=>20 | 213=>295 | 46=>167 | 232=>303 | 233=>304 | n=>n,fun | 17=>1 | 18=>2 | 19=>3 | n=>n⟩
def Tryz.laysM171_ren:Go.Shelf.Ren:=⟨fun | 171=>73 | 243=>119 | 246=>164 | 283=>193 | 284=>194 | 285=>195 | 286=>196 | 129=>143 | 317=>210 | 318=>211 | 319=>212 | 320=>213 | 337=>223 | 338=>224 | n=>n,fun | 3=>3 | 9=>9 | 2=>2 | 4=>4 | 171=>279 | 0=>0 | 53=>140 | 37=>155 | 5=>5 | 173=>281 | 212=>294 | 51=>34 | 20=>20 | 213=>295 | 46=>167 | 232=>303 | 233=>304 | n=>n,fun | 17=>1 | 18=>2 | 19=>3 | n=>n⟩
theorem Tryz.laysM171 : Go.Proofs.LaysM.n171 Tryz.prog Tryz.laysM171_ren := {
  mixed := by kernel_rfl
  f129 := Tryz.func143.trans (congrArg some (by kernel_rfl))
  f171 := Tryz.func73.trans (congrArg some (by kernel_rfl))
  f243 := Tryz.func119.trans (congrArg some (by kernel_rfl))
  f246 := Tryz.func164.trans (congrArg some (by kernel_rfl))
  f283 := Tryz.func193.trans (congrArg some (by kernel_rfl))
  f284 := Tryz.func194.trans (congrArg some (by kernel_rfl))
  f285 := Tryz.func195.trans (congrArg some (by kernel_rfl))
  f286 := Tryz.func196.trans (congrArg some (by kernel_rfl))
  f317 := Tryz.func210.trans (congrArg some (by kernel_rfl))
  f318 := Tryz.func211.trans (congrArg some (by kernel_rfl))
  f319 := Tryz.func212.trans (congrArg some (by kernel_rfl))
  f320 := Tryz.func213.trans (congrArg some (by kernel_rfl))
  f337 := Tryz.func223.trans (congrArg some (by kernel_rfl))
  f338 := Tryz.func224.trans (congrArg some (by kernel_rfl))
  t0 := Tryz.underlying0
  a0 := Tryz.isAgg0
  z0 := Tryz.sizeOf0
  v0 := Tryz.zeroValue0
  t2 := Tryz.underlying2
  a2 := Tryz.isAgg2
  z2 := Tryz.sizeOf2
  v2 := Tryz.zeroValue2
  t3 := Tryz.underlying3
  a3 := Tryz.isAgg3
  z3 := Tryz.sizeOf3
  v3 := Tryz.zeroValue3
  t4 := Tryz.underlying4
  a4 := Tryz.isAgg4
  z4 := Tryz.sizeOf4
  v4 := Tryz.zeroValue4
  t5 := Tryz.underlying5
  a5 := Tryz.isAgg5
  z5 := Tryz.sizeOf5
  v5 := Tryz.zeroValue5
  t9 := Tryz.underlying9
  a9 := Tryz.isAgg9
  z9 := Tryz.sizeOf9
  v9 := Tryz.zeroValue9
  t20 := Tryz.underlying20
  a20 := Tryz.isAgg20
  z20 := Tryz.sizeOf20
  v20 := Tryz.zeroValue20
  t37 := Tryz.underlying155
  a37 := Tryz.isAgg155
  z37 := Tryz.sizeOf155
  v37 := Tryz.zeroValue155
  t46 := Tryz.underlying167
  a46 := Tryz.isAgg167
  z46 := Tryz.sizeOf167
  v46 := Tryz.zeroValue167
  t51 := Tryz.underlying34
  a51 := Tryz.isAgg34
  z51 := Tryz.sizeOf34
  v51 := Tryz.zeroValue34
  t53 := Tryz.underlying140
  a53 := Tryz.isAgg140
  z53 := Tryz.sizeOf140
  v53 := Tryz.zeroValue140
  t171 := Tryz.underlying279
  a171 := Tryz.isAgg279
  z171 := Tryz.sizeOf279
  v171 := Tryz.zeroValue279
  t173 := Tryz.underlying281
  a173 := Tryz.isAgg281
  z173 := Tryz.sizeOf281
  v173 := Tryz.zeroValue281
  t212 := Tryz.underlying294
  a212 := Tryz.isAgg294
  z212 := Tryz.sizeOf294
  v212 := Tryz.zeroValue294
  t213 := Tryz.underlying295
  a213 := Tryz.isAgg295
  z213 := Tryz.sizeOf295
  t232 := Tryz.underlying303
  a232 := Tryz.isAgg303
  z232 := Tryz.sizeOf303
  v232 := Tryz.zeroValue303
  t233 := Tryz.underlying304
  a233 := Tryz.isAgg304
  z233 := Tryz.sizeOf304
  v233 := Tryz.zeroValue304
  g17 := by kernel_rfl
  g18 := by kernel_rfl
  g19 := by kernel_rfl
  i0 := by kernel_rfl
  i2 := by kernel_rfl
  i3 := by kernel_rfl
  i4 := by kernel_rfl
  i5 := by kernel_rfl
  i9 := by kernel_rfl
  i20 := by kernel_rfl
  i37 := by kernel_rfl
  i46 := by kernel_rfl
  i51 := by kernel_rfl
  i53 := by kernel_rfl
  i171 := by kernel_rfl
  i173 := by kernel_rfl
  i212 := by kernel_rfl
  i232 := by kernel_rfl
  i233 := by kernel_rfl
  m17 := by kernel_rfl
  m18 := by kernel_rfl
  m19 := by kernel_rfl }
open Go.RowKit Go.Sort Go.Lib in
theorem Tryz.strconv_Itoa (n:Int) (h0 : -9223372036854775808≤n) (h1:n≤9223372036854775807) (w:World) (htab:Lib.TabIs Tryz.prog w "internal/strconv.uint64pow10" .u64 Lib.pow10Tab) :
  Calls Tryz.prog 73 #[.int .i64 n] w fun e w'=>e=.returned (.string ⟨(Lib.itoa n).toArray⟩)∧∃ k os,w'=grow (w.drewN k) os:=Any.strconv_Itoa Tryz.laysM171 n h0 h1 w htab
def Tryz.lays219_ren:Go.Shelf.Ren:=⟨fun | 219=>203 | 217=>182 | 225=>215 | 224=>216 | 267=>217 | 266=>202 | 314=>225 | n=>n,fun | 9=>9 | 3=>3 | 4=>4 | 5=>5 | 46=>167 | 146=>253 | 51=>34 | n=>n,fun | 1=>0 | n=>n⟩
theorem Tryz.lays219 : Go.Proofs.Lays.n219 Tryz.prog Tryz.lays219_ren := {
  mixed := by kernel_rfl
  f217 := Tryz.func182.trans (congrArg some (by kernel_rfl))
  f219 := Tryz.func203.trans (congrArg some (by kernel_rfl))
  f224 := Tryz.func216.trans (congrArg some (by kernel_rfl))
  f225 := Tryz.func215.trans (congrArg some (by kernel_rfl))
  f266 := Tryz.func202.trans (congrArg some (by kernel_rfl))
  f267 := Tryz.func217.trans (congrArg some (by kernel_rfl))
  f314 := Tryz.func225.trans (congrArg some (by kernel_rfl))
  t3 := Tryz.underlying3
  a3 := Tryz.isAgg3
  z3 := Tryz.sizeOf3
  v3 := Tryz.zeroValue3
  t4 := Tryz.underlying4
  a4 := Tryz.isAgg4
  z4 := Tryz.sizeOf4
  v4 := Tryz.zeroValue4
  t5 := Tryz.underlying5
  a5 := Tryz.isAgg5
  z5 := Tryz.sizeOf5
  v5 := Tryz.zeroValue5
  t9 := Tryz.underlying9
  a9 := Tryz.isAgg9
  z9 := Tryz.sizeOf9
  v9 := Tryz.zeroValue9
  t46 := Tryz.underlying167
  a46 := Tryz.isAgg167
  z46 := Tryz.sizeOf167
  v46 := Tryz.zeroValue167
  t51 := Tryz.underlying34
  a51 := Tryz.isAgg34
  z51 := Tryz.sizeOf34
  v51 := Tryz.zeroValue34
  t146 := Tryz.underlying253
  a146 := Tryz.isAgg253
  z146 := Tryz.sizeOf253
  v146 := Tryz.zeroValue253
  g1 := by kernel_rfl }
open Go.RowKit Go.Lib in
theorem Tryz.stringslite_Index_one (s:ByteArray) (c:UInt8) (w:World) :
  Calls Tryz.prog 203 #[.string s,.string ⟨#[c]⟩] w fun e w'=>e=.returned (.int .i64 (Lib.indexByte s.data.toList c))∧w'=w:=Any.stringslite_Index_one Tryz.lays219 s c w
def Tryz.lays143_ren:Go.Shelf.Ren:=⟨fun | 143=>209 | 219=>203 | 217=>182 | 225=>215 | 224=>216 | 267=>217 | 266=>202 | 314=>225 | n=>n,fun | 9=>9 | 3=>3 | 4=>4 | 5=>5 | 46=>167 | 146=>253 | 51=>34 | n=>n,fun | 1=>0 | n=>n⟩
theorem Tryz.lays143 : Go.Proofs.Lays.n143 Tryz.prog Tryz.lays143_ren := {
  mixed := by kernel_rfl
  f143 := Tryz.func209.trans (congrArg some (by kernel_rfl))
  f217 := Tryz.func182.trans (congrArg some (by kernel_rfl))
  f219 := Tryz.func203.trans (congrArg some (by kernel_rfl))
  f224 := Tryz.func216.trans (congrArg some (by kernel_rfl))
  f225 := Tryz.func215.trans (congrArg some (by kernel_rfl))
  f266 := Tryz.func202.trans (congrArg some (by kernel_rfl))
  f267 := Tryz.func217.trans (congrArg some (by kernel_rfl))
  f314 := Tryz.func225.trans (congrArg some (by kernel_rfl))
  t3 := Tryz.underlying3
  a3 := Tryz.isAgg3
  z3 := Tryz.sizeOf3
  v3 := Tryz.zeroValue3
  t4 := Tryz.underlying4
  a4 := Tryz.isAgg4
  z4 := Tryz.sizeOf4
  v4 := Tryz.zeroValue4
  t5 := Tryz.underlying5
  a5 := Tryz.isAgg5
  z5 := Tryz.sizeOf5
  v5 := Tryz.zeroValue5
  t9 := Tryz.underlying9
  a9 := Tryz.isAgg9
  z9 := Tryz.sizeOf9
  v9 := Tryz.zeroValue9
  t46 := Tryz.underlying167
  a46 := Tryz.isAgg167
  z46 := Tryz.sizeOf167
  v46 := Tryz.zeroValue167
  t51 := Tryz.underlying34
  a51 := Tryz.isAgg34
  z51 := Tryz.sizeOf34
  v51 := Tryz.zeroValue34
  t146 := Tryz.underlying253
  a146 := Tryz.isAgg253
  z146 := Tryz.sizeOf253
  v146 := Tryz.zeroValue253
  g1 := by kernel_rfl }
open Go.RowKit Go.Lib in
theorem Tryz.strings_Index_one (s:ByteArray) (c:UInt8) (w:World) :
  Calls Tryz.prog 209 #[.string s,.string ⟨#[c]⟩] w fun e w'=>e=.returned (.int .i64 (Lib.indexByte s.data.toList c))∧w'=w:=Any.strings_Index_one Tryz.lays143 s c w
def Tryz.lays138_ren:Go.Shelf.Ren:=⟨fun | 138=>208 | 195=>220 | 218=>222 | 143=>209 | 219=>203 | 217=>182 | 225=>215 | 224=>216 | 267=>217 | 266=>202 | 314=>225 | n=>n,fun | 9=>9 | 3=>3 | 4=>4 | 5=>5 | 0=>0 | 46=>167 | 146=>253 | 51=>34 | n=>n,fun | 1=>0 | n=>n⟩
theorem Tryz.lays138 : Go.Proofs.Lays.n138 Tryz.prog Tryz.lays138_ren := {
  mixed := by kernel_rfl
  f138 := Tryz.func208.trans (congrArg some (by kernel_rfl))
  f143 := Tryz.func209.trans (congrArg some (by kernel_rfl))
  f195 := Tryz.func220.trans (congrArg some (by kernel_rfl))
  f217 := Tryz.func182.trans (congrArg some (by kernel_rfl))
  f218 := Tryz.func222.trans (congrArg some (by kernel_rfl))
  f219 := Tryz.func203.trans (congrArg some (by kernel_rfl))
  f224 := Tryz.func216.trans (congrArg some (by kernel_rfl))
  f225 := Tryz.func215.trans (congrArg some (by kernel_rfl))
  f266 := Tryz.func202.trans (congrArg some (by kernel_rfl))
  f267 := Tryz.func217.trans (congrArg some (by kernel_rfl))
  f314 := Tryz.func225.trans (congrArg some (by kernel_rfl))
  t0 := Tryz.underlying0
  a0 := Tryz.isAgg0
  z0 := Tryz.sizeOf0
  v0 := Tryz.zeroValue0
  t3 := Tryz.underlying3
  a3 := Tryz.isAgg3
  z3 := Tryz.sizeOf3
  v3 := Tryz.zeroValue3
  t4 := Tryz.underlying4
  a4 := Tryz.isAgg4
  z4 := Tryz.sizeOf4
  v4 := Tryz.zeroValue4
  t5 := Tryz.underlying5
  a5 := Tryz.isAgg5
  z5 := Tryz.sizeOf5
  v5 := Tryz.zeroValue5
  t9 := Tryz.underlying9
  a9 := Tryz.isAgg9
  z9 := Tryz.sizeOf9
  v9 := Tryz.zeroValue9
  t46 := Tryz.underlying167
  a46 := Tryz.isAgg167
  z46 := Tryz.sizeOf167
  v46 := Tryz.zeroValue167
  t51 := Tryz.underlying34
  a51 := Tryz.isAgg34
  z51 := Tryz.sizeOf34
  v51 := Tryz.zeroValue34
  t146 := Tryz.underlying253
  a146 := Tryz.isAgg253
  z146 := Tryz.sizeOf253
  v146 := Tryz.zeroValue253
  g1 := by kernel_rfl }
open Go.RowKit Go.Lib in
theorem Tryz.strings_Count_one (s:ByteArray) (c:UInt8) (w:World) :
  Calls Tryz.prog 208 #[.string s,.string ⟨#[c]⟩] w fun e w'=>e=.returned (.int .i64 (Lib.countByte s.data.toList c))∧w'=w:=Any.strings_Count_one Tryz.lays138 s c w
def Tryz.lays221_ren:Go.Shelf.Ren:=⟨fun | 221=>192 | 268=>207 | 138=>208 | 143=>209 | 195=>220 | 197=>221 | 218=>222 | 219=>203 | 260=>226 | 217=>182 | 225=>215 | 224=>216 | 267=>217 | 266=>202 | 314=>225 | n=>n,fun | 9=>9 | 3=>3 | 31=>96 | 4=>4 | 0=>0 | 105=>300 | 21=>21 | 5=>5 | 46=>167 | 119=>305 | 139=>308 | 138=>307 | 146=>253 | 51=>34 | n=>n,fun | 1=>0 | 3=>4 | 4=>5 | n=>n⟩
theorem Tryz.lays221 : Go.Proofs.Lays.n221 Tryz.prog Tryz.lays221_ren := {
  mixed := by kernel_rfl
  f138 := Tryz.func208.trans (congrArg some (by kernel_rfl))
  f143 := Tryz.func209.trans (congrArg some (by kernel_rfl))
  f195 := Tryz.func220.trans (congrArg some (by kernel_rfl))
  f197 := Tryz.func221.trans (congrArg some (by kernel_rfl))
  f217 := Tryz.func182.trans (congrArg some (by kernel_rfl))
  f218 := Tryz.func222.trans (congrArg some (by kernel_rfl))
  f219 := Tryz.func203.trans (congrArg some (by kernel_rfl))
  f221 := Tryz.func192.trans (congrArg some (by kernel_rfl))
  f224 := Tryz.func216.trans (congrArg some (by kernel_rfl))
  f225 := Tryz.func215.trans (congrArg some (by kernel_rfl))
  f260 := Tryz.func226.trans (congrArg some (by kernel_rfl))
  f266 := Tryz.func202.trans (congrArg some (by kernel_rfl))
  f267 := Tryz.func217.trans (congrArg some (by kernel_rfl))
  f268 := Tryz.func207.trans (congrArg some (by kernel_rfl))
  f314 := Tryz.func225.trans (congrArg some (by kernel_rfl))
  t0 := Tryz.underlying0
  a0 := Tryz.isAgg0
  z0 := Tryz.sizeOf0
  v0 := Tryz.zeroValue0
  t3 := Tryz.underlying3
  a3 := Tryz.isAgg3
  z3 := Tryz.sizeOf3
  v3 := Tryz.zeroValue3
  t4 := Tryz.underlying4
  a4 := Tryz.isAgg4
  z4 := Tryz.sizeOf4
  v4 := Tryz.zeroValue4
  t5 := Tryz.underlying5
  a5 := Tryz.isAgg5
  z5 := Tryz.sizeOf5
  v5 := Tryz.zeroValue5
  t9 := Tryz.underlying9
  a9 := Tryz.isAgg9
  z9 := Tryz.sizeOf9
  v9 := Tryz.zeroValue9
  t21 := Tryz.underlying21
  a21 := Tryz.isAgg21
  z21 := Tryz.sizeOf21
  v21 := Tryz.zeroValue21
  t31 := Tryz.underlying96
  a31 := Tryz.isAgg96
  z31 := Tryz.sizeOf96
  v31 := Tryz.zeroValue96
  t46 := Tryz.underlying167
  a46 := Tryz.isAgg167
  z46 := Tryz.sizeOf167
  v46 := Tryz.zeroValue167
  t51 := Tryz.underlying34
  a51 := Tryz.isAgg34
  z51 := Tryz.sizeOf34
  v51 := Tryz.zeroValue34
  t105 := Tryz.underlying300
  a105 := Tryz.isAgg300
  z105 := Tryz.sizeOf300
  v105 := Tryz.zeroValue300
  t119 := Tryz.underlying305
  a119 := Tryz.isAgg305
  z119 := Tryz.sizeOf305
  t138 := Tryz.underlying307
  a138 := Tryz.isAgg307
  z138 := Tryz.sizeOf307
  v138 := Tryz.zeroValue307
  t139 := Tryz.underlying308
  a139 := Tryz.isAgg308
  z139 := Tryz.sizeOf308
  v139 := Tryz.zeroValue308
  t146 := Tryz.underlying253
  a146 := Tryz.isAgg253
  z146 := Tryz.sizeOf253
  v146 := Tryz.zeroValue253
  g1 := by kernel_rfl
  g3 := by kernel_rfl
  g4 := by kernel_rfl }
def Tryz.lays105_ren:Go.Shelf.Ren:=⟨fun | 105=>75 | 212=>120 | 99=>121 | 165=>122 | 166=>123 | 170=>124 | 169=>125 | 263=>165 | 264=>166 | 206=>167 | 240=>168 | 241=>169 | 276=>197 | 277=>198 | n=>n,fun | 9=>9 | 3=>3 | 4=>4 | 20=>20 | 0=>0 | 46=>167 | 109=>199 | 5=>5 | 72=>204 | 76=>208 | 51=>34 | 146=>253 | 53=>140 | 148=>255 | 70=>202 | 37=>155 | 75=>207 | 127=>257 | 164=>283 | 80=>211 | n=>n,fun | n=>n⟩
theorem Tryz.lays105 : Go.Proofs.Lays.n105 Tryz.prog Tryz.lays105_ren := {
  mixed := by kernel_rfl
  f99 := Tryz.func121.trans (congrArg some (by kernel_rfl))
  f105 := Tryz.func75.trans (congrArg some (by kernel_rfl))
  f165 := Tryz.func122.trans (congrArg some (by kernel_rfl))
  f166 := Tryz.func123.trans (congrArg some (by kernel_rfl))
  f169 := Tryz.func125.trans (congrArg some (by kernel_rfl))
  f170 := Tryz.func124.trans (congrArg some (by kernel_rfl))
  f206 := Tryz.func167.trans (congrArg some (by kernel_rfl))
  f212 := Tryz.func120.trans (congrArg some (by kernel_rfl))
  f240 := Tryz.func168.trans (congrArg some (by kernel_rfl))
  f241 := Tryz.func169.trans (congrArg some (by kernel_rfl))
  f263 := Tryz.func165.trans (congrArg some (by kernel_rfl))
  f264 := Tryz.func166.trans (congrArg some (by kernel_rfl))
  f276 := Tryz.func197.trans (congrArg some (by kernel_rfl))
  f277 := Tryz.func198.trans (congrArg some (by kernel_rfl))
  t0 := Tryz.underlying0
  a0 := Tryz.isAgg0
  z0 := Tryz.sizeOf0
  v0 := Tryz.zeroValue0
  t3 := Tryz.underlying3
  a3 := Tryz.isAgg3
  z3 := Tryz.sizeOf3
  v3 := Tryz.zeroValue3
  t4 := Tryz.underlying4
  a4 := Tryz.isAgg4
  z4 := Tryz.sizeOf4
  v4 := Tryz.zeroValue4
  t5 := Tryz.underlying5
  a5 := Tryz.isAgg5
  z5 := Tryz.sizeOf5
  v5 := Tryz.zeroValue5
  t9 := Tryz.underlying9
  a9 := Tryz.isAgg9
  z9 := Tryz.sizeOf9
  v9 := Tryz.zeroValue9
  t20 := Tryz.underlying20
  a20 := Tryz.isAgg20
  z20 := Tryz.sizeOf20
  v20 := Tryz.zeroValue20
  t37 := Tryz.underlying155
  a37 := Tryz.isAgg155
  z37 := Tryz.sizeOf155
  v37 := Tryz.zeroValue155
  t46 := Tryz.underlying167
  a46 := Tryz.isAgg167
  z46 := Tryz.sizeOf167
  v46 := Tryz.zeroValue167
  t51 := Tryz.underlying34
  a51 := Tryz.isAgg34
  z51 := Tryz.sizeOf34
  v51 := Tryz.zeroValue34
  t53 := Tryz.underlying140
  a53 := Tryz.isAgg140
  z53 := Tryz.sizeOf140
  v53 := Tryz.zeroValue140
  t70 := Tryz.underlying202
  a70 := Tryz.isAgg202
  z70 := Tryz.sizeOf202
  v70 := Tryz.zeroValue202
  t72 := Tryz.underlying204
  a72 := Tryz.isAgg204
  z72 := Tryz.sizeOf204
  v72 := Tryz.zeroValue204
  t75 := Tryz.underlying207
  a75 := Tryz.isAgg207
  z75 := Tryz.sizeOf207
  v75 := Tryz.zeroValue207
  t76 := Tryz.underlying208
  a76 := Tryz.isAgg208
  z76 := Tryz.sizeOf208
  v76 := Tryz.zeroValue208
  t109 := Tryz.underlying199
  a109 := Tryz.isAgg199
  z109 := Tryz.sizeOf199
  v109 := Tryz.zeroValue199
  t127 := Tryz.underlying257
  a127 := Tryz.isAgg257
  z127 := Tryz.sizeOf257
  v127 := Tryz.zeroValue257
  t146 := Tryz.underlying253
  a146 := Tryz.isAgg253
  z146 := Tryz.sizeOf253
  v146 := Tryz.zeroValue253
  t148 := Tryz.underlying255
  a148 := Tryz.isAgg255
  z148 := Tryz.sizeOf255
  v148 := Tryz.zeroValue255
  t164 := Tryz.underlying283
  a164 := Tryz.isAgg283
  z164 := Tryz.sizeOf283
  v164 := Tryz.zeroValue283 }
theorem Tryz.Builder_Extra_105 : Builder.Extra Tryz.prog Tryz.lays105_ren := {
  sizeBuilder := by kernel_rfl
  liesBuilder := by kernel_rfl
  t5 := Tryz.underlying5
  a5 := Tryz.isAgg5
  z5 := Tryz.sizeOf5
  v5 := Tryz.zeroValue5
  infoByte := by kernel_rfl
  cellsByte := by kernel_rfl
  sizeByte := by kernel_rfl
  neB5 := by decide }
open Go.RowKit Go.Lib in
theorem Tryz.strings_Repeat (s:ByteArray) (c:Nat) (w:World) (hc:c≤9223372036854775807) (hlen:s.size * c≤140737488355328) :
  Calls Tryz.prog 75 #[.string s,.int .i64 c] w fun e w'=>e=.returned (.string ⟨(Lib.repeatL s.data.toList c).toArray⟩)∧Below w.heap.size w w':=Any.strings_Repeat Tryz.lays105 Tryz.Builder_Extra_105 s c w hc hlen
end Go.Proofs
namespace Go.Proofs.YtcebndkiagbddaaGreatDoor
section
open Go.RowKit
def Qi8 (k:Nat):Nat:=[0,167772160,167837696,167838208,167838211,167903232,167772160,3232235520,3232235776,2147483648,167838336].getD k 0
def Qnc (k:Nat):Nat:=[0,8,16,24,32,16,9,16,24,1,25].getD k 0
abbrev Qf8:Array Value:=#[.int .u32 0,.int .i64 0,.int .u32 167772160,.int .i64 8,.int .u32 167837696,.int .i64 16,.int .u32 167838208,.int .i64 24,.int .u32 167838211,.int .i64 32,.int .u32 167903232,.int .i64 16,.int .u32 167772160,.int .i64 9,.int .u32 3232235520,.int .i64 16,.int .u32 3232235776,.int .i64 24,.int .u32 2147483648,.int .i64 1,.int .u32 167838336,.int .i64 25]
theorem Qee (k:Nat) (h:k < 11):Qf8[2 * k]? = some (.int .u32 (Qi8 k:Int))∧Qf8[2 * k+1]? = some (.int .i64 (Qnc k:Int)):=by
 match k,h with
 | 0,_ | 1,_ | 2,_ | 3,_ | 4,_ | 5,_ | 6,_ | 7,_ | 8,_ | 9,_ | 10,_=>exact ⟨rfl,rfl⟩
theorem Qwh (k:Nat):Qi8 k < 4294967296:=by
 unfold Qi8;by_cases h:k < 11
 ·match k,h with
  | 0,_ | 1,_ | 2,_ | 3,_ | 4,_ | 5,_ | 6,_ | 7,_ | 8,_ | 9,_ | 10,_=>decide
 ·rw [Qza,List.getElem?_eq_none (by simp;omega)];decide
theorem Qqn (k:Nat) (h:k < 11):Qah (Qi8 k) (Qnc k:Int):=by
 match k,h with
 | 0,_ | 1,_ | 2,_ | 3,_ | 4,_ | 5,_ | 6,_ | 7,_ | 8,_ | 9,_ | 10,_=>decide +kernel
set_option maxHeartbeats 800000 in
theorem Qta (w:World) :
  Calls Tryz.prog 65 #[] w fun e w'=>e=.returned (.slice (some ⟨w.heap.size,0,none⟩) 11 11)∧w.alloc (.cells Qf8 36)=w':=by
 have f0:bits .or .u32 167772160 0=167772160:=by kernel_rfl
 have f1:bits .or .u32 167772160 65536=167837696:=by kernel_rfl
 have f2:bits .or .u32 167837696 0=167837696:=by kernel_rfl
 have f3:bits .or .u32 167837696 512=167838208:=by kernel_rfl
 have f4:bits .or .u32 167838208 0=167838208:=by kernel_rfl
 have f5:bits .or .u32 167838208 3=167838211:=by kernel_rfl
 have f6:bits .or .u32 167772160 131072=167903232:=by kernel_rfl
 have f7:bits .or .u32 167903232 0=167903232:=by kernel_rfl
 have f8:bits .or .u32 3221225472 11010048=3232235520:=by kernel_rfl
 have f9:bits .or .u32 3232235520 0=3232235520:=by kernel_rfl
 have f10:bits .or .u32 3232235520 256=3232235776:=by kernel_rfl
 have f11:bits .or .u32 3232235776 0=3232235776:=by kernel_rfl
 have f12:bits .or .u32 2147483648 0=2147483648:=by kernel_rfl
 have f13:bits .or .u32 167838208 128=167838336:=by kernel_rfl
 go_enter Tryz.func65,Tryz.ntmps65
 go_wp2
 go_ret
 exact ⟨rfl,rfl⟩
end
section
open Go.RowKit
theorem Qle (k:Nat) (n:Int) (w:World) (e:n=(k:Int)) (h1:k≤32) :
  Calls Tryz.prog 103 #[.int .i64 n] w fun e w'=>e=.returned (.int .u32 ((XM k:Nat):Int))∧w=w':=by
 subst e
 have e1:(4294967295 * 2 ^ (32 - k) % 4294967296:Int)=((XM k:Nat):Int):=by
  rw [← Qml k,Int.natCast_emod,Int.natCast_mul,Int.natCast_pow];rfl
 have E:=Lib.hid e1;clear e1
 go_enter Tryz.func103,Tryz.ntmps103
 go_wp2
 go_ret
 exact ⟨JE E.out,rfl⟩
abbrev Qi9 (a:Nat) (n:Int):Value:=.agg #[.int .u32 (a:Int),.int .i64 n]
set_option maxHeartbeats 400000 in
theorem Qqo (a:Nat) (n:Int) (w:World) (ha:a < 4294967296) :
  Calls Tryz.prog 58 #[Qi9 a n] w fun e w'=>e=.returned (.int .i64 (ZV a n))∧Below w.heap.size w w':=by
 by_cases h0:n < 0
 ·have E:=Lib.hid (show ZV a n=4 by unfold ZV;rw [if_pos (.inl h0)])
  go_enter Tryz.func58,Tryz.ntmps58
  go_wp2
  go_ret
  exact ⟨JE E.out.symm,(Below.refl _ _).alloc (Qzb _) _⟩
 ·by_cases h1:32 < n
  ·have E:=Lib.hid (show ZV a n=4 by unfold ZV;rw [if_pos (.inr h1)])
   go_enter Tryz.func58,Tryz.ntmps58
   go_wp2
   go_ret
   exact ⟨JE E.out.symm,(Below.refl _ _).alloc (Qzb _) _⟩
  ·obtain ⟨k,rfl⟩:=Int.eq_ofNat_of_zero_le (show 0≤n by omega);have hk:k≤32:=by omega
   have hm:=QrI k
   have hb:bits .andNot .u32 (a:Int) ((XM k:Nat):Int)=((a % 2 ^ (32 - k):Nat):Int):=by
    rw [u32_andNot_nat a (XM k) ha hm,Qij]
   by_cases hz:a % 2 ^ (32 - k)=0
   ·have E:=Lib.hid (show ZV a (k:Int)=0 from Xv.2 ⟨by omega,by omega,hz⟩);have hb2:bits .andNot .u32 (a:Int) ((XM k:Nat):Int)=0:=by rw [hb,hz];rfl
    clear hb hz
    go_enter Tryz.func58,Tryz.ntmps58
    go_wp2
    go_quiet ((go_at_call 103;exact Qfs (Qle _ _ _ rfl hk)))
    go_wp2
    go_ret
    exact ⟨JE E.out.symm,Qd2 ((Below.refl _ _).alloc (Qzb _) _) _⟩
   ·have E:=Lib.hid (show ZV a (k:Int)=3 by unfold ZV;rw [if_neg (by omega),Int.toNat_natCast,if_pos hz]);have hb2:(bits .andNot .u32 (a:Int) ((XM k:Nat):Int) != 0)=true:=by rw [hb,bne_iff_ne];exact_mod_cast hz
    clear hb hz
    go_enter Tryz.func58,Tryz.ntmps58
    go_wp2
    go_quiet ((go_at_call 103;exact Qfs (Qle _ _ _ rfl hk)))
    go_wp2
    go_ret
    exact ⟨JE E.out.symm,Qd2 ((Below.refl _ _).alloc (Qzb _) _) _⟩
theorem Qlf (a:Nat) (n r:Int) (w:World) (ha:a < 4294967296) (h:Hid (ZV a n=r)) :
  Calls Tryz.prog 58 #[Qi9 a n] w fun e w'=>e=.returned (.int .i64 r)∧Below w.heap.size w w' :=
 (Qqo a n w ha).mono fun _ _ ⟨h1,h2⟩=>⟨by rw [h1,h.out],h2⟩
end
section
def Zs (l:List Nat):List Char:=l.map Qy4
theorem Qbs:∀ (l:List Nat) (r:List Char),(l.all fun c=>!(Qy4 c == Qy4 32))=true→wordsSigns (Zs l++Qy4 32::r)=Zs l::wordsSigns r
 | [],r,_=>by
  show wordsSigns (Qy4 32::r)=[]::wordsSigns r;rfl
 | c::l,r,h=>by
  simp only [List.all_cons,Qy6,Qy8,beq_eq_false_iff_ne] at h;have ih:=Qbs l r h.2;show wordsSigns (Qy4 c::(Zs l++Qy4 32::r))=(Qy4 c::Zs l)::wordsSigns r;rw [wordsSigns]
  ·rw [ih]
  ·exact fun e=>h.1 (e.trans rfl)
theorem QwW {h s:List Char} {r:List (List Char)} (hc:((h == "harness".toList || h == "ownmain".toList) && isSumSigns s)=true):behindMainWord (h::s::r)=r:=by
 simp only [behindMainWord];rw [if_pos hc]
def hA:List Nat:=104::97::114::110::101::115::115::[]
def hB:List Nat:=51::48::52::51::57::51::100::99::48::99::102::102::100::99::52::55::54::102::49::51::57::101::98::99::53::102::53::57::102::57::49::101::52::54::53::52::102::50::98::50::56::100::53::48::57::56::57::57::55::99::56::57::98::48::53::54::100::55::99::54::50::98::49::54::[]
def hC:List Nat:=99::117::116::[]
def hD:List Nat:=97::116::32::99::97::116::116::108::101::99::114::101::101::112::47::99::97::116::116::108::101::99::114::101::101::112::107::101::101::112::46::67::111::110::102::79::119::110::101::100::32::99::97::116::116::108::101::99::114::101::101::112::47::99::97::116::116::108::101::99::114::101::101::112::107::101::101::112::46::65::112::112::108::121::79::119::110::32::99::97::116::116::108::101::99::114::101::101::112::47::99::97::116::116::108::101::99::114::101::101::112::107::101::101::112::46::65::112::112::108::121::71::111::111::100::32::99::97::116::116::108::101::99::114::101::101::112::47::99::97::116::116::108::101::99::114::101::101::112::107::101::101::112::46::65::112::112::108::121::77::111::118::101::115::32::99::97::116::116::108::101::99::114::101::101::112::47::99::97::116::116::108::101::99::114::101::101::112::107::101::101::112::46::65::112::112::108::121::65::108::108::32::99::97::116::116::108::101::99::114::101::101::112::47::99::97::116::116::108::101::99::114::101::101::112::107::101::101::112::46::65::112::112::108::121::84::101::120::116::32::99::97::116::116::108::101::99::114::101::101::112::47::99::97::116::116::108::101::99::114::101::101::112::107::101::101::112::46::65::112::112::108::121::84::119::105::99::101::32::99::97::116::116::108::101::99::114::101::101::112::47::99::97::116::116::108::101::99::114::101::101::112::107::101::101::112::46::83::116::97::103::101::83::116::101::112::115::32::99::97::116::116::108::101::99::114::101::101::112::47::99::97::116::116::108::101::99::114::101::101::112::107::101::101::112::46::83::116::97::103::101::65::115::105::100::101::32::99::97::116::116::108::101::99::114::101::101::112::47::99::97::116::116::108::101::99::114::101::101::112::107::101::101::112::46::83::116::97::103::101::69::110::100::115::32::99::97::116::116::108::101::99::114::101::101::112::47::99::97::116::116::108::101::99::114::101::101::112::107::101::101::112::46::83::104::111::119::66::97::99::107::32::99::97::116::116::108::101::99::114::101::101::112::47::99::97::116::116::108::101::99::114::101::101::112::107::101::101::112::46::68::105::102::102::66::97::99::107::32::99::97::116::116::108::101::99::114::101::101::112::47::99::97::116::116::108::101::99::114::101::101::112::107::101::101::112::46::68::97::101::109::111::110::67::111::109::109::105::116::115::[]
theorem QyN:Tryz.prog.initOrder=String.ofList (Zs hA++Qy4 32::(Zs hB++Qy4 32::(Zs hC++Qy4 32::Zs hD))):=by
 conv=>lhs;whnf
 kernel_rfl
theorem QyO:Tryz.prog.initOrder.toList=Zs hA++Qy4 32::(Zs hB++Qy4 32::(Zs hC++Qy4 32::Zs hD)):=by
 rw [QyN,String.toList_ofList]
theorem cut_:∃ r,behindMainWord (wordsSigns Tryz.prog.initOrder.toList)=Zs (99::117::116::[])::r:=by
 refine ⟨wordsSigns (Zs hD),?_⟩;rw [QyO,Qbs _ _ (by decide +kernel),Qbs _ _ (by decide +kernel),Qbs _ _ (by decide +kernel)];have h:((Zs hA == "harness".toList || Zs hA == "ownmain".toList) && isSumSigns (Zs hB))=true:=by decide +kernel
 exact QwW h
theorem Quk (r:List (List Char)):stripLifts liftWords (Zs (99::117::116::[])::r)=([],Zs (99::117::116::[])::r):=by kernel_rfl
theorem Qul (P:Program) (r:List (List Char)) (h:behindMainWord (wordsSigns P.initOrder.toList)=Zs (99::117::116::[])::r) (h1:P.laysLater=false) (h2:P.bearsReflect=false) (h3:P.doorFits []=true):P.mayEnter=true:=by
 unfold Program.mayEnter;rw [h];simp only [Quk,h1,h2,h3,Bool.not_false,Bool.or_true,Bool.and_true];have a:((Zs (99::117::116::[])::r).head? == some "cut".toList)=true:=by kernel_rfl
 have b:(Qzi ([]:List String) "reflectrows" || !Qzi ([]:List String) "leanrows")=true:=by kernel_rfl
 rw [a,b];simp
theorem Qum (P:Program) (r:List (List Char)) (h:behindMainWord (wordsSigns P.initOrder.toList)=Zs (99::117::116::[])::r):P.headLifts=[]:=by
 unfold Program.headLifts;rw [h];simp only [Quk];have a:((Zs (99::117::116::[])::r).head? == some "cut".toList)=true:=by kernel_rfl
 rw [a];rfl
theorem Qun (P:Program) (r:List (List Char)) (h:behindMainWord (wordsSigns P.initOrder.toList)=Zs (99::117::116::[])::r):P.liftsFinal=false:=by
 unfold Program.liftsFinal;rw [h,Qum P r h];have a:((Zs (99::117::116::[])::r).head? == some "carried".toList)=false:=by kernel_rfl
 have b:Qzi ([]:List String) "finals" = false:=by kernel_rfl
 simp only [a,b,Bool.false_and,Bool.false_or]
theorem QwX (P:Program) (r:List (List Char)) (h:behindMainWord (wordsSigns P.initOrder.toList)=Zs (99::117::116::[])::r):P.make=some .cut:=by
 unfold Program.make;rw [h];have a:(Zs (99::117::116::[]) == "gc".toList)=false:=by kernel_rfl
 have b:(Zs (99::117::116::[]) == "spec".toList)=false:=by kernel_rfl
 have c:(Zs (99::117::116::[]) == "cut".toList)=true:=by kernel_rfl
 simp only [a,b,c,Bool.false_or,Bool.true_or,if_true];rfl
theorem QyP:Tryz.prog.laysLater=false:=by kernel_rfl
theorem QyQ:Tryz.prog.bearsReflect=false:=by kernel_rfl
theorem door_:Tryz.prog.doorFits []=true:=by kernel_rfl
theorem JW:Tryz.prog.mayEnter=true:=by
 obtain ⟨r,h⟩:=cut_;exact Qul _ r h QyP QyQ door_
theorem QyR:Tryz.prog.liftsFinal=false:=by
 obtain ⟨r,h⟩:=cut_;exact Qun _ r h
theorem make_:Tryz.prog.make=some .cut:=by
 obtain ⟨r,h⟩:=cut_;exact QwX _ r h
theorem Qc {a b:Bool} (h:a=true) (k:b=true):(a && b)=true:=by rw [h,k];rfl
theorem YW {x:Bool} (h:x=false):(x == Tryz.prog.liftsFinal)=true:=by rw [QyR,h];rfl
theorem XV {x:Make} (h:x=.cut):(Tryz.prog.make == some x)=true:=by rw [make_,h];rfl
theorem Qc5:mapsRowed Tryz.prog=true:=by kernel_rfl
theorem Qc6:laidOutB Tryz.prog=true:=by kernel_rfl
theorem JX:Tryz.prog.stopsHeard=true:=by kernel_rfl
end
end Go.Proofs.YtcebndkiagbddaaGreatDoor
