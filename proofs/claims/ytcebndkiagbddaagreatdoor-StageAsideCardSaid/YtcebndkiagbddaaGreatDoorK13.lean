/- A part of the proof: contracts of functions and what they stand on. Written shorter and merged by a program (pack.py). -/
import Derived.Test.YtcebndkiagbddaaGreatDoorK12
set_option linter.unusedVariables false
set_option linter.unusedSimpArgs false
set_option maxRecDepth 100000
set_option maxHeartbeats 4000000
open List renaming getD_eq_getElem?_getD → Qy3, getElem?_eq_getElem → Qy4, map_cons → Qy5, getElem?_eq_none → Qy7, getElem?_drop → Qy8
open Nat renaming beq → Qy6, zero_le → Qy9
namespace Go.Proofs.YtcebndkiagbddaaGreatDoor
section
open Go.RowKit
def QvU:List EV→Option (List Int)
 | []=>some []
 | x::l=>match YQ x with
  | some i=>match QvU l with
   | some q=>some (i::q)
   | none=>none
  | none=>none
def QvV:List EV→Option (List (List UInt8))
 | []=>some []
 | x::l=>match asS x with
  | some i=>match QvV l with
   | some q=>some (i::q)
   | none=>none
  | none=>none
def QvW:List EV→Option (List Bool)
 | []=>some []
 | x::l=>match asB x with
  | some i=>match QvW l with
   | some q=>some (i::q)
   | none=>none
  | none=>none
def QvX:List EV→Option (List UInt32)
 | []=>some []
 | x::l=>match XN x with
  | some i=>match QvX l with
   | some q=>some (i::q)
   | none=>none
  | none=>none
def homE (l:List EV):Option (Nat→EV) :=
 match QvU l with
 | some q=>some fun i=>.i (q.getD i 0)
 | none=>match QvV l with
  | some q=>some fun i=>.s (q.getD i [])
  | none=>match QvX l with
   | some q=>some fun i=>.u32 (q.getD i 0)
   | none=>match QvW l with
    | some q=>some fun i=>.b (q.getD i false)
    | none=>match QgZ l with
     | some q=>some fun i=>.u8 (q.getD i 0)
     | none=>none
def hdE:List EV→EV
 | []=>.any
 | x::_=>x
def Qf3 (s:Nat):Nat→List EV→List EV
 | 0,_=>[]
 | n+1,l=>hdE l::Qf3 s n (dpE s l)
def QvY (n s:Nat):Nat→List EV→Option (List (Nat→EV))
 | 0,_=>some []
 | k+1,l=>match homE (Qf3 s n l) with
  | some f=>match QvY n s k (dpE 1 l) with
   | some fs=>some (f::fs)
   | none=>none
  | none=>none
def QkP:List (Nat→EV)→Nat→Nat→EV
 | [],_,_=>.any
 | f::_,i,0=>f i
 | _::fs,i,j+1=>QkP fs i j
def selF (tab:TT) (vs:List (Nat×EV)) (bs:List (Nat×EB)) (d:Nat) (T:TypeId) (x:Operand) (y:EV):Option RS :=
 match frz vs bs x with
 | some (.sl cells n,R)=>match tab.find T with
  | some ⟨.sl _ s _ _,_,_,_,_⟩=>bif Qy6 cells.length (n * s) then (match QvY n s s cells with
   | some fs=>match Qse tab T (.lz n s (fun i j=>QkP fs i j)) y with
    | some (C,z)=>some ⟨R.C++C,(d,z)::R.sl,R.hp⟩
    | none=>none
   | none=>none) else none
  | _=>none
 | _=>none
theorem Qoz:∀ {l:List EV} {q:List Int},QvU l=some q→l.map EV.pv=q.map (fun i=>(EV.i i).pv)
 | [],q,h=>by cases h;rfl
 | x::l,q,h=>by
  unfold QvU at h;split at h
  ·next i hi =>
   split at h
   ·next q' hq=>cases h;rw [Qy5,Qy5,Qoz hq,YR hi]
   ·cases h
  ·cases h
theorem QoA:∀ {l:List EV} {q:List (List UInt8)},QvV l=some q→l.map EV.pv=q.map (fun i=>(EV.s i).pv)
 | [],q,h=>by cases h;rfl
 | x::l,q,h=>by
  unfold QvV at h;split at h
  ·next i hi =>
   split at h
   ·next q' hq=>cases h;rw [Qy5,Qy5,QoA hq,Yc hi]
   ·cases h
  ·cases h
theorem QoB:∀ {l:List EV} {q:List Bool},QvW l=some q→l.map EV.pv=q.map (fun i=>(EV.b i).pv)
 | [],q,h=>by cases h;rfl
 | x::l,q,h=>by
  unfold QvW at h;split at h
  ·next i hi =>
   split at h
   ·next q' hq=>cases h;rw [Qy5,Qy5,QoB hq,Qdz hi]
   ·cases h
  ·cases h
theorem QsI {x:EV} {c:UInt32} (h:XN x=some c):x.pv=(EV.u32 c).pv:=by
 unfold XN at h;split at h
 ·cases h;rfl
 ·next m =>
  cases hb:Nat.blt m 4294967296 with
  | false=>rw [hb] at h;cases h
  | true =>
   rw [hb] at h;cases h;have hm:m < 4294967296:=by simpa [Nat.blt_eq] using hb
   unfold EV.pv Qkp;rw [UInt32.toNat_ofNat',Nat.mod_eq_of_lt (by simpa using hm)];rfl
 ·cases h
theorem QoC:∀ {l:List EV} {q:List UInt32},QvX l=some q→l.map EV.pv=q.map (fun i=>(EV.u32 i).pv)
 | [],q,h=>by cases h;rfl
 | x::l,q,h=>by
  unfold QvX at h;split at h
  ·next i hi =>
   split at h
   ·next q' hq=>cases h;rw [Qy5,Qy5,QoC hq,QsI hi]
   ·cases h
  ·cases h
theorem QaB {α:Type} {l:List EV} {q:List α} {k:α→EV} {d:α} (h:l.map EV.pv=q.map (fun i=>(k i).pv)) (i:Nat) (hi:i < l.length):(k (q.getD i d)).pv=(l[i]).pv:=by
 have hlen:l.length=q.length:=by simpa using congrArg List.length h
 have hi':i < q.length:=by omega
 have e:=congrArg (fun m=>m[i]?) h;simp only [List.getElem?_map] at e;rw [Qy4 hi,Qy4 hi'] at e;simp only [Option.map_some,Option.some.injEq] at e;rw [Qy3,Qy4 hi',e];rfl
theorem QvZ {l:List EV} {f:Nat→EV} (h:homE l=some f) (i:Nat) (hi:i < l.length):(f i).pv=(l[i]).pv:=by
 unfold homE at h;split at h
 ·next q hq=>cases h;exact QaB (Qoz hq) i hi
 ·split at h
  ·next q hq=>cases h;exact QaB (QoA hq) i hi
  ·split at h
   ·next q hq=>cases h;exact QaB (QoC hq) i hi
   ·split at h
    ·next q hq=>cases h;exact QaB (QoB hq) i hi
    ·split at h
     ·next q hq =>
      cases h;refine QaB (k:=EV.u8) ?_ i hi;have e:=(VE hq).1;rw [Yq] at e;exact e
     ·cases h
theorem QkQ (s:Nat):∀ (n:Nat) (l:List EV),(Qf3 s n l).length=n
 | 0,_=>rfl
 | n+1,l=>by simp [Qf3,QkQ s n]
theorem Qv0 (l:List EV):hdE l=l.getD 0 .any:=by cases l <;> rfl
theorem QkR (s:Nat):∀ (n:Nat) (l:List EV) (i:Nat) (h:i < (Qf3 s n l).length),(Qf3 s n l)[i]=l.getD (i * s) .any
 | 0,l,i,h=>by simp [Qf3] at h
 | n+1,l,0,h=>by simp [Qf3,Qv0]
 | n+1,l,i+1,h=>by
  have h':i < (Qf3 s n (dpE s l)).length:=by simpa [Qf3] using h
  show (Qf3 s n (dpE s l))[i]=_;rw [QkR s n (dpE s l) i h',Qay,Qy3,Qy3,Qy8,Nat.succ_mul,Nat.add_comm s]
theorem QoD {n s:Nat}:∀ {k:Nat} {l:List EV} {fs:List (Nat→EV)},QvY n s k l=some fs → ∀ j,j < k → ∀ i,i < n→(QkP fs i j).pv=(l.getD (i * s+j) .any).pv
 | 0,_,_,_,j,hj,_,_=>by omega
 | k+1,l,fs,h,j,hj,i,hi=>by
  unfold QvY at h;split at h
  ·next f hf =>
   split at h
   ·next fs' hfs =>
    cases h
    cases j with
    | zero =>
     show (f i).pv=_;rw [QvZ hf i (by rw [QkQ];exact hi),QkR];rfl
    | succ j =>
     show (QkP fs' i j).pv=_;rw [QoD hfs j (by omega) i hi,Qay,Qy3,Qy3,Qy8];rw [show 1+(i * s+j)=i * s+(j+1) from by omega]
   ·cases h
  ·cases h
theorem lz_of {n s:Nat} {cells:List EV} {f:Nat→Nat→EV} (hl:cells.length=n * s) (hf:∀ j,j < s → ∀ i,i < n→(f i j).pv=(cells.getD (i * s+j) .any).pv):lzC n s f=pvL cells:=by
 apply List.ext_getElem?;intro k;by_cases hk:k < n * s
 ·have hs:0 < s:=by
   rcases Nat.eq_zero_or_pos s with h | h
   ·subst h;simp at hk
   ·exact h
  have hj:k % s < s:=Nat.mod_lt _ hs;have hi:k / s < n:=(Nat.div_lt_iff_lt_mul hs).2 hk;have e:k / s * s+k % s=k:=by rw [Nat.mul_comm];exact Nat.div_add_mod k s
  have g:=XG n s f hi hj;rw [e] at g;rw [g,hf _ hj _ hi,e,Qbc,Qy4 (by omega),Qy3,Qy4 (by omega)];rfl
 ·rw [Qy7 (by rw [WX];omega),Qy7 (by rw [Qu];omega)]
section
variable {P:Program} {E:Env} {kp:List Nat} {n:Nat} {ops:Array Oper} {d:Nat} {ty:TypeId} {ps:String} {af:Array Edge}
variable {tab:TT} {vs:List (Nat×EV)} {bs:List (Nat×EB)} {st:ES}
theorem Qv1 {T:TypeId} {x y:Operand} {R:RS} (hP:tab.ok P) (S:Sub vs bs st) (h:selF tab vs bs d T x (Qw vs y)=some R) (hC:∀ c∈R.C,c) (hd:Nat.blt d n=true) :
  Qf P E kp n ops ⟨some d,.indexAddr T x y,ty,ps,af,none⟩ st.as (R.app st).as:=by
 unfold selF at h;split at h
 ·next cells m R' hR =>
  split at h
  ·next s _ _ _ _ _ _ hti =>
   cases hb:Qy6 cells.length (m * s) with
   | false=>rw [hb] at h;cases h
   | true =>
    rw [hb] at h;simp only [cond_true] at h;split at h
    ·next fs hfs =>
     split at h
     ·next C z hz =>
      cases h;have hC1:∀ c∈R'.C,c:=fun c hc=>hC c (List.mem_append_left _ hc);have hC2:∀ c∈C,c:=fun c hc=>hC c (List.mem_append_right _ hc);obtain ⟨k1,k2,k3⟩:=QfS (E:=E) (kp:=kp) (n:=n) S hR hC1
      have e:(EV.lz m s (fun i j=>QkP fs i j)).av=(EV.sl cells m).av:=by
       show AV.p (.sl (lzC m s _) m)=AV.p (.sl (pvL cells) m);rw [lz_of (Qe hb) (fun j hj i hi=>QoD hfs j hj i hi)]
      refine (Qoj (st:=(R'.app st).as) (v:=Qw vs y) hP hz hC2 hd (by rw [e];exact k2) ?_).pre k1
      have hi:(Vc (Qw vs y)).isSome=true:=by
       unfold Qse at hz;split at hz
       ·cases hz
       ·next p q hq=>rw [hq];rfl
      rw [k3 y (fun r q e=>by rw [e] at hi;cases hi)];exact S.v y
     ·cases h
    ·cases h
  ·cases h
 ·cases h
end
end
section
open Go.RowKit
def QsJ (tab:TT) (vs:List (Nat×EV)) (bs:List (Nat×EB)) (d:Nat) (T:TypeId) (x:Operand) (lo hi mx:Option Operand):Option RS :=
 match tab.find T with
 | some ⟨.sl _ s _ _,_,_,_,_⟩=>match Qw vs x with
  | .osl r m=>match mx with
   | none=>match lo,hi with
    | some l,none=>match YQ (Qw vs l) with
     | some i=>some ⟨[0≤i∧i≤(m:Int)],[(d,.oss r i.toNat (m - i.toNat) s)],[]⟩
     | none=>none
    | none,some h=>match YQ (Qw vs h),ob_ bs r with
     | some j,.rz k sz f t pub=>bif Qy6 sz s && Qy6 pub 0 then some ⟨[0≤j∧j≤(m:Int),j≤(k:Int)],[(d,.osl r j.toNat)],[(r,.rz j.toNat sz f t 0)]⟩ else none
     | _,_=>none
    | _,_=>none
   | _=>none
  | _=>none
 | _=>none
def QsK (tab:TT) (vs:List (Nat×EV)) (bs:List (Nat×EB)) (c:Call):Option RS :=
 match c.callee with
 | .builtin .clear=>match c.args.toList,c.argTypes.toList with
  | [x],[T]=>match tab.find T with
   | some ⟨.sl _ s _ _,_,_,_,_⟩=>match Qw vs x with
    | .oss r i m s'=>match ob_ bs r with
     | .rz k sz f t pub=>bif Qy6 sz s && Qy6 s' s && Qy6 pub 0 then some ⟨[i+m≤k],[],[(r,.rz i sz f t 0)]⟩ else none
     | _=>none
    | _=>none
   | _=>none
  | _,_=>none
 | _=>none
theorem QkS {n sz k:Nat} (f:Nat→Nat→EV) (h:k≤n):(lzC n sz f).take (k * sz)=lzC k sz f:=by
 obtain ⟨q,rfl⟩:∃ q,n=k+q:=⟨n - k,by omega⟩;rw [JJ,List.take_append,WX,Nat.sub_self,List.take_zero,List.append_nil,List.take_of_length_le (by rw [WX];exact Nat.le_refl _)]
theorem Qf4 {α:Type}:∀ (xs:List α) (o:Nat) (l:List α),(QD l o xs).take o=l.take o
 | [],_,_=>rfl
 | x::xs,o,l=>by
  show (QD (l.set o x) (o+1) xs).take o=_;have h:=Qf4 xs (o+1) (l.set o x);have h2:=congrArg (List.take o) h;rw [List.take_take,List.take_take,Nat.min_eq_left (by omega)] at h2;rw [h2,List.take_set_of_le (Nat.le_refl _)]
section
variable {P:Program} {E:Env} {kp:List Nat} {n:Nat} {ops:Array Oper} {tab:TT} {st:ES} {d:Nat} {ty:TypeId} {ps:String} {af:Array Edge} {vs:List (Nat×EV)} {bs:List (Nat×EB)}
theorem QsL {T:TypeId} {x:Operand} {lo hi mx:Option Operand} {R:RS} (hP:tab.ok P) (S:Sub vs bs st) (h:QsJ tab vs bs d T x lo hi mx=some R) (hC:∀ c∈R.C,c) (hd:Nat.blt d n=true) :
  Qf P E kp n ops ⟨some d,.slice T x lo hi mx,ty,ps,af,none⟩ st.as (R.app st).as:=by
 unfold QsJ at h;split at h
 ·next e s b z ag sz ze ks hti =>
  obtain ⟨_,hsl,_⟩:=(TT.find_ok hP hti).sl _ _ _ _ rfl;split at h
  ·next r m hx =>
   have hx':Gv (st.as.ev x) (.osl r m):=by have:=S.v x;rw [hx] at this;exact this
   split at h
   ·split at h
    ·next l =>
     split at h
     ·next i hi =>
      cases h;have c1:=hC (0≤i∧i≤(m:Int)) (by simp);exact Qvy hx' hsl ((S.v l).trans (Ve hi)) c1.1 c1.2 hd
     ·cases h
    ·next hh =>
     split at h
     ·next j k sz' f t pub hj hb =>
      cases hq:Qy6 sz' s && Qy6 pub 0 with
      | false=>rw [hq] at h;cases h
      | true =>
       rw [hq] at h;cases h;rw [Bool.and_eq_true] at hq;have q1:=Qe hq.1;have q2:=Qe hq.2;subst q1 q2;have c1:=hC (0≤j∧j≤(m:Int)) (by simp);have c2:=hC (j≤(k:Int)) (by simp);have hl:=S.ob hb (by simp);have key:=QvA (P:=P) (E:=E) (kp:=kp) (n:=n) (ops:=ops) (ty:=ty) (ps:=ps) (af:=af) (d:=d) hx' hl hsl ((S.v hh).trans (Ve hj)) c1.1 c1.2 (Qy9 _) hd;rw [QkS f (by omega)] at key;exact key
     ·cases h
    ·cases h
   ·cases h
  ·cases h
 ·cases h
theorem QsM {c:Call} {R:RS} (hP:tab.ok P) (S:Sub vs bs st) (h:QsK tab vs bs c=some R) (hC:∀ c∈R.C,c) :
  Qf P E kp n ops ⟨none,.call c,ty,ps,af,none⟩ st.as (R.app st).as:=by
 obtain ⟨cl,args,ats⟩:=c;unfold QsK at h;simp only at h;split at h
 ·split at h
  ·next x T hxs hTs =>
   have e1:=QvM hxs;have e2:=QvM hTs;subst e1 e2;split at h
   ·next e s b z ag sz ze ks hti =>
    obtain ⟨_,_,hap,hs0,hz⟩:=(TT.find_ok hP hti).sl _ _ _ _ rfl;split at h
    ·next r i m s' hx =>
     have hx':Gv (st.as.ev x) (.oss r i m s'):=by have:=S.v x;rw [hx] at this;exact this
     split at h
     ·next k sz' f t pub hb =>
      cases hq:Qy6 sz' s && Qy6 s' s && Qy6 pub 0 with
      | false=>rw [hq] at h;cases h
      | true =>
       rw [hq] at h;cases h;simp only [Bool.and_eq_true] at hq;have q1:=Qe hq.1.1;have q2:=Qe hq.1.2;have q3:=Qe hq.2;subst q1 q2 q3;have c1:=hC (i+m≤k) (by simp);have hl:=S.ob hb (by simp);have key:=QvB (P:=P) (E:=E) (kp:=kp) (n:=n) (ops:=ops) (ty:=ty) (ps:=ps) (af:=af) hx' hl hap hs0 hz (Qy9 _) (by rw [WX];exact Nat.mul_le_mul_right _ c1);refine key.wk ?_
       have hl2:(st.as.set r (.row (QD (lzC k s' f) (i * s') (ZE z m)) t s' 0)).ob r=.row (QD (lzC k s' f) (i * s') (ZE z m)) t s' 0:=by
        show look OB.dead (_::_) r=_;rw [Qb,if_pos rfl]
       have w:=Qkv (E:=E) (kp:=kp) (n:=n) r (i * s') hl2 (Qy9 _);rw [Qf4,QkS f (by omega)] at w;refine w.trans fun a w hs=>?_;refine Sat.congr (st:=⟨st.as.slots,(r,.row (lzC i s' f) t s' 0)::(r,.row (QD (lzC k s' f) (i * s') (ZE z m)) t s' 0)::st.as.heap⟩) (fun s=>rfl) (fun q=>?_) hs;show look OB.dead ((r,OB.row (lzC i s' f) t s' 0)::st.as.heap) q=look OB.dead ((r,_)::(r,_)::st.as.heap) q;rw [Qb,Qb,Qb];split <;> rfl
     ·cases h
    ·cases h
   ·cases h
  ·cases h
 ·cases h
end
end
end Go.Proofs.YtcebndkiagbddaaGreatDoor
