/- A part of the proof: contracts of functions and what they stand on. Written shorter and merged by a program (pack.py). -/
import Derived.Test.YtcebndkiagbddaaGreatDoorK11
set_option linter.unusedVariables false
set_option linter.unusedSimpArgs false
set_option maxRecDepth 100000
set_option maxHeartbeats 4000000
open List renaming getD_eq_getElem?_getD -> Qxo, getElem?_eq_getElem -> Qxp, map_cons -> Qxq, getElem?_eq_none -> Qxs, getElem?_drop -> Qxt
open Nat renaming beq -> Qxr, zero_le -> Qxu
namespace Go.Proofs.YtcebndkiagbddaaGreatDoor
section
open Go.RowKit
def QtI:List EV->Option (List Int)
 | []=>some []
 | x::l=>match ZV x with
  | some i=>match QtI l with
   | some q=>some (i::q)
   | none=>none
  | none=>none
def QtJ:List EV->Option (List (List UInt8))
 | []=>some []
 | x::l=>match asS x with
  | some i=>match QtJ l with
   | some q=>some (i::q)
   | none=>none
  | none=>none
def QtK:List EV->Option (List Bool)
 | []=>some []
 | x::l=>match asB x with
  | some i=>match QtK l with
   | some q=>some (i::q)
   | none=>none
  | none=>none
def QtL:List EV->Option (List UInt32)
 | []=>some []
 | x::l=>match YA x with
  | some i=>match QtL l with
   | some q=>some (i::q)
   | none=>none
  | none=>none
def homE (l:List EV):Option (Nat->EV) :=
 match QtI l with
 | some q=>some fun i=>.i (q.getD i 0)
 | none=>match QtJ l with
  | some q=>some fun i=>.s (q.getD i [])
  | none=>match QtL l with
   | some q=>some fun i=>.u32 (q.getD i 0)
   | none=>match QtK l with
    | some q=>some fun i=>.b (q.getD i false)
    | none=>match QeL l with
     | some q=>some fun i=>.u8 (q.getD i 0)
     | none=>none
def hdE:List EV->EV
 | []=>.any
 | x::_=>x
def QdJ (s:Nat):Nat->List EV->List EV
 | 0,_=>[]
 | n+1,l=>hdE l::QdJ s n (dpE s l)
def QtM (n s:Nat):Nat->List EV->Option (List (Nat->EV))
 | 0,_=>some []
 | k+1,l=>match homE (QdJ s n l) with
  | some f=>match QtM n s k (dpE 1 l) with
   | some fs=>some (f::fs)
   | none=>none
  | none=>none
def QhZ:List (Nat->EV)->Nat->Nat->EV
 | [],_,_=>.any
 | f::_,i,0=>f i
 | _::fs,i,j+1=>QhZ fs i j
def selF (tab:TT) (vs:List (Nat×EV)) (bs:List (Nat×EB)) (d:Nat) (T:TypeId) (x:Operand) (y:EV):Option RS :=
 match frz vs bs x with
 | some (.sl cells n,R)=>match tab.find T with
  | some ⟨.sl _ s _ _,_,_,_,_⟩=>bif Qxr cells.length (n * s) then (match QtM n s s cells with
   | some fs=>match Qpz tab T (.lz n s (fun i j=>QhZ fs i j)) y with
    | some (C,z)=>some ⟨R.C++C,(d,z)::R.sl,R.hp⟩
    | none=>none
   | none=>none) else none
  | _=>none
 | _=>none
theorem Ql8:∀ {l:List EV} {q:List Int},QtI l=some q->l.map EV.pv=q.map (fun i=>(EV.i i).pv)
 | [],q,h=>by cases h;rfl
 | x::l,q,h=>by
  unfold QtI at h;split at h
  ·next i hi =>
   split at h
   ·next q' hq=>cases h;rw [Qxq,Qxq,Ql8 hq,ZW hi]
   ·cases h
  ·cases h
theorem Ql9:∀ {l:List EV} {q:List (List UInt8)},QtJ l=some q->l.map EV.pv=q.map (fun i=>(EV.s i).pv)
 | [],q,h=>by cases h;rfl
 | x::l,q,h=>by
  unfold QtJ at h;split at h
  ·next i hi =>
   split at h
   ·next q' hq=>cases h;rw [Qxq,Qxq,Ql9 hq,Zs hi]
   ·cases h
  ·cases h
theorem Qma:∀ {l:List EV} {q:List Bool},QtK l=some q->l.map EV.pv=q.map (fun i=>(EV.b i).pv)
 | [],q,h=>by cases h;rfl
 | x::l,q,h=>by
  unfold QtK at h;split at h
  ·next i hi =>
   split at h
   ·next q' hq=>cases h;rw [Qxq,Qxq,Qma hq,Qbv hi]
   ·cases h
  ·cases h
theorem Qp3 {x:EV} {c:UInt32} (h:YA x=some c):x.pv=(EV.u32 c).pv:=by
 unfold YA at h;split at h
 ·cases h;rfl
 ·next m =>
  cases hb:Nat.blt m 4294967296 with
  | false=>rw [hb] at h;cases h
  | true =>
   rw [hb] at h;cases h;have hm:m < 4294967296:=by simpa [Nat.blt_eq] using hb
   unfold EV.pv Qhy;rw [UInt32.toNat_ofNat',Nat.mod_eq_of_lt (by simpa using hm)];rfl
 ·cases h
theorem Qmb:∀ {l:List EV} {q:List UInt32},QtL l=some q->l.map EV.pv=q.map (fun i=>(EV.u32 i).pv)
 | [],q,h=>by cases h;rfl
 | x::l,q,h=>by
  unfold QtL at h;split at h
  ·next i hi =>
   split at h
   ·next q' hq=>cases h;rw [Qxq,Qxq,Qmb hq,Qp3 hi]
   ·cases h
  ·cases h
theorem VW {α:Type} {l:List EV} {q:List α} {k:α->EV} {d:α} (h:l.map EV.pv=q.map (fun i=>(k i).pv)) (i:Nat) (hi:i < l.length):(k (q.getD i d)).pv=(l[i]).pv:=by
 have hlen:l.length=q.length:=by simpa using congrArg List.length h
 have hi':i < q.length:=by omega
 have e:=congrArg (fun m=>m[i]?) h;simp only [List.getElem?_map] at e;rw [Qxp hi,Qxp hi'] at e;simp only [Option.map_some,Option.some.injEq] at e;rw [Qxo,Qxp hi',e];rfl
theorem QtN {l:List EV} {f:Nat->EV} (h:homE l=some f) (i:Nat) (hi:i < l.length):(f i).pv=(l[i]).pv:=by
 unfold homE at h;split at h
 ·next q hq=>cases h;exact VW (Ql8 hq) i hi
 ·split at h
  ·next q hq=>cases h;exact VW (Ql9 hq) i hi
  ·split at h
   ·next q hq=>cases h;exact VW (Qmb hq) i hi
   ·split at h
    ·next q hq=>cases h;exact VW (Qma hq) i hi
    ·split at h
     ·next q hq =>
      cases h;refine VW (k:=EV.u8) ?_ i hi;have e:=(Xi hq).1;rw [ZB] at e;exact e
     ·cases h
theorem Qh0 (s:Nat):∀ (n:Nat) (l:List EV),(QdJ s n l).length=n
 | 0,_=>rfl
 | n+1,l=>by simp [QdJ,Qh0 s n]
theorem QtO (l:List EV):hdE l=l.getD 0 .any:=by cases l <;> rfl
theorem Qh1 (s:Nat):∀ (n:Nat) (l:List EV) (i:Nat) (h:i < (QdJ s n l).length),(QdJ s n l)[i]=l.getD (i * s) .any
 | 0,l,i,h=>by simp [QdJ] at h
 | n+1,l,0,h=>by simp [QdJ,QtO]
 | n+1,l,i+1,h=>by
  have h':i < (QdJ s n (dpE s l)).length:=by simpa [QdJ] using h
  show (QdJ s n (dpE s l))[i]=_;rw [Qh1 s n (dpE s l) i h',VT,Qxo,Qxo,Qxt,Nat.succ_mul,Nat.add_comm s]
theorem Qmc {n s:Nat}:∀ {k:Nat} {l:List EV} {fs:List (Nat->EV)},QtM n s k l=some fs -> ∀ j,j < k -> ∀ i,i < n->(QhZ fs i j).pv=(l.getD (i * s+j) .any).pv
 | 0,_,_,_,j,hj,_,_=>by omega
 | k+1,l,fs,h,j,hj,i,hi=>by
  unfold QtM at h;split at h
  ·next f hf =>
   split at h
   ·next fs' hfs =>
    cases h
    cases j with
    | zero =>
     show (f i).pv=_;rw [QtN hf i (by rw [Qh0];exact hi),Qh1];rfl
    | succ j =>
     show (QhZ fs' i j).pv=_;rw [Qmc hfs j (by omega) i hi,VT,Qxo,Qxo,Qxt];rw [show 1+(i * s+j)=i * s+(j+1) from by omega]
   ·cases h
  ·cases h
theorem lz_of {n s:Nat} {cells:List EV} {f:Nat->Nat->EV} (hl:cells.length=n * s) (hf:∀ j,j < s -> ∀ i,i < n->(f i j).pv=(cells.getD (i * s+j) .any).pv):lzC n s f=pvL cells:=by
 apply List.ext_getElem?;intro k;by_cases hk:k < n * s
 ·have hs:0 < s:=by
   rcases Nat.eq_zero_or_pos s with h | h
   ·subst h;simp at hk
   ·exact h
  have hj:k % s < s:=Nat.mod_lt _ hs;have hi:k / s < n:=(Nat.div_lt_iff_lt_mul hs).2 hk;have e:k / s * s+k % s=k:=by rw [Nat.mul_comm];exact Nat.div_add_mod k s
  have g:=Ys n s f hi hj;rw [e] at g;rw [g,hf _ hj _ hi,e,Ji,Qxp (by omega),Qxo,Qxp (by omega)];rfl
 ·rw [Qxs (by rw [Wp];omega),Qxs (by rw [Qk];omega)]
section
variable {P:Program} {E:Env} {kp:List Nat} {n:Nat} {ops:Array Oper} {d:Nat} {ty:TypeId} {ps:String} {af:Array Edge}
variable {tab:TT} {vs:List (Nat×EV)} {bs:List (Nat×EB)} {st:ES}
theorem QtP {T:TypeId} {x y:Operand} {R:RS} (hP:tab.ok P) (S:Sub vs bs st) (h:selF tab vs bs d T x (Ql vs y)=some R) (hC:∀ c∈R.C,c) (hd:Nat.blt d n=true) :
  Qd P E kp n ops ⟨some d,.indexAddr T x y,ty,ps,af,none⟩ st.as (R.app st).as:=by
 unfold selF at h;split at h
 ·next cells m R' hR =>
  split at h
  ·next s _ _ _ _ _ _ hti =>
   cases hb:Qxr cells.length (m * s) with
   | false=>rw [hb] at h;cases h
   | true =>
    rw [hb] at h;simp only [cond_true] at h;split at h
    ·next fs hfs =>
     split at h
     ·next C z hz =>
      cases h;have hC1:∀ c∈R'.C,c:=fun c hc=>hC c (List.mem_append_left _ hc);have hC2:∀ c∈C,c:=fun c hc=>hC c (List.mem_append_right _ hc);obtain ⟨k1,k2,k3⟩:=Qdy (E:=E) (kp:=kp) (n:=n) S hR hC1
      have e:(EV.lz m s (fun i j=>QhZ fs i j)).av=(EV.sl cells m).av:=by
       show AV.p (.sl (lzC m s _) m)=AV.p (.sl (pvL cells) m);rw [lz_of (Qc hb) (fun j hj i hi=>Qmc hfs j hj i hi)]
      refine (QlS (st:=(R'.app st).as) (v:=Ql vs y) hP hz hC2 hd (by rw [e];exact k2) ?_).pre k1
      have hi:(YV (Ql vs y)).isSome=true:=by
       unfold Qpz at hz;split at hz
       ·cases hz
       ·next p q hq=>rw [hq];rfl
      rw [k3 y (fun r q e=>by rw [e] at hi;cases hi)];exact S.v y
     ·cases h
    ·cases h
  ·cases h
 ·cases h
end
end
section
open Go.RowKit
def Qp4 (tab:TT) (vs:List (Nat×EV)) (bs:List (Nat×EB)) (d:Nat) (T:TypeId) (x:Operand) (lo hi mx:Option Operand):Option RS :=
 match tab.find T with
 | some ⟨.sl _ s _ _,_,_,_,_⟩=>match Ql vs x with
  | .osl r m=>match mx with
   | none=>match lo,hi with
    | some l,none=>match ZV (Ql vs l) with
     | some i=>some ⟨[0<=i/\i<=(m:Int)],[(d,.oss r i.toNat (m - i.toNat) s)],[]⟩
     | none=>none
    | none,some h=>match ZV (Ql vs h),ob_ bs r with
     | some j,.rz k sz f t pub=>bif Qxr sz s && Qxr pub 0 then some ⟨[0<=j/\j<=(m:Int),j<=(k:Int)],[(d,.osl r j.toNat)],[(r,.rz j.toNat sz f t 0)]⟩ else none
     | _,_=>none
    | _,_=>none
   | _=>none
  | _=>none
 | _=>none
def Qp5 (tab:TT) (vs:List (Nat×EV)) (bs:List (Nat×EB)) (c:Call):Option RS :=
 match c.callee with
 | .builtin .clear=>match c.args.toList,c.argTypes.toList with
  | [x],[T]=>match tab.find T with
   | some ⟨.sl _ s _ _,_,_,_,_⟩=>match Ql vs x with
    | .oss r i m s'=>match ob_ bs r with
     | .rz k sz f t pub=>bif Qxr sz s && Qxr s' s && Qxr pub 0 then some ⟨[i+m<=k],[],[(r,.rz i sz f t 0)]⟩ else none
     | _=>none
    | _=>none
   | _=>none
  | _,_=>none
 | _=>none
theorem Qh2 {n sz k:Nat} (f:Nat->Nat->EV) (h:k<=n):(lzC n sz f).take (k * sz)=lzC k sz f:=by
 obtain ⟨q,rfl⟩:∃ q,n=k+q:=⟨n - k,by omega⟩;rw [Vi,List.take_append,Wp,Nat.sub_self,List.take_zero,List.append_nil,List.take_of_length_le (by rw [Wp];exact Nat.le_refl _)]
theorem QdK {α:Type}:∀ (xs:List α) (o:Nat) (l:List α),(Qs l o xs).take o=l.take o
 | [],_,_=>rfl
 | x::xs,o,l=>by
  show (Qs (l.set o x) (o+1) xs).take o=_;have h:=QdK xs (o+1) (l.set o x);have h2:=congrArg (List.take o) h;rw [List.take_take,List.take_take,Nat.min_eq_left (by omega)] at h2;rw [h2,List.take_set_of_le (Nat.le_refl _)]
section
variable {P:Program} {E:Env} {kp:List Nat} {n:Nat} {ops:Array Oper} {tab:TT} {st:ES} {d:Nat} {ty:TypeId} {ps:String} {af:Array Edge} {vs:List (Nat×EV)} {bs:List (Nat×EB)}
theorem Qp6 {T:TypeId} {x:Operand} {lo hi mx:Option Operand} {R:RS} (hP:tab.ok P) (S:Sub vs bs st) (h:Qp4 tab vs bs d T x lo hi mx=some R) (hC:∀ c∈R.C,c) (hd:Nat.blt d n=true) :
  Qd P E kp n ops ⟨some d,.slice T x lo hi mx,ty,ps,af,none⟩ st.as (R.app st).as:=by
 unfold Qp4 at h;split at h
 ·next e s b z ag sz ze ks hti =>
  obtain ⟨_,hsl,_⟩:=(TT.find_ok hP hti).sl _ _ _ _ rfl;split at h
  ·next r m hx =>
   have hx':Gv (st.as.ev x) (.osl r m):=by have:=S.v x;rw [hx] at this;exact this
   split at h
   ·split at h
    ·next l =>
     split at h
     ·next i hi =>
      cases h;have c1:=hC (0<=i/\i<=(m:Int)) (by simp);exact Qtm hx' hsl ((S.v l).trans (YX hi)) c1.1 c1.2 hd
     ·cases h
    ·next hh =>
     split at h
     ·next j k sz' f t pub hj hb =>
      cases hq:Qxr sz' s && Qxr pub 0 with
      | false=>rw [hq] at h;cases h
      | true =>
       rw [hq] at h;cases h;rw [Bool.and_eq_true] at hq;have q1:=Qc hq.1;have q2:=Qc hq.2;subst q1 q2;have c1:=hC (0<=j/\j<=(m:Int)) (by simp);have c2:=hC (j<=(k:Int)) (by simp);have hl:=S.ob hb (by simp);have key:=Qto (P:=P) (E:=E) (kp:=kp) (n:=n) (ops:=ops) (ty:=ty) (ps:=ps) (af:=af) (d:=d) hx' hl hsl ((S.v hh).trans (YX hj)) c1.1 c1.2 (Qxu _) hd;rw [Qh2 f (by omega)] at key;exact key
     ·cases h
    ·cases h
   ·cases h
  ·cases h
 ·cases h
theorem Qp7 {c:Call} {R:RS} (hP:tab.ok P) (S:Sub vs bs st) (h:Qp5 tab vs bs c=some R) (hC:∀ c∈R.C,c) :
  Qd P E kp n ops ⟨none,.call c,ty,ps,af,none⟩ st.as (R.app st).as:=by
 obtain ⟨cl,args,ats⟩:=c;unfold Qp5 at h;simp only at h;split at h
 ·split at h
  ·next x T hxs hTs =>
   have e1:=QtA hxs;have e2:=QtA hTs;subst e1 e2;split at h
   ·next e s b z ag sz ze ks hti =>
    obtain ⟨_,_,hap,hs0,hz⟩:=(TT.find_ok hP hti).sl _ _ _ _ rfl;split at h
    ·next r i m s' hx =>
     have hx':Gv (st.as.ev x) (.oss r i m s'):=by have:=S.v x;rw [hx] at this;exact this
     split at h
     ·next k sz' f t pub hb =>
      cases hq:Qxr sz' s && Qxr s' s && Qxr pub 0 with
      | false=>rw [hq] at h;cases h
      | true =>
       rw [hq] at h;cases h;simp only [Bool.and_eq_true] at hq;have q1:=Qc hq.1.1;have q2:=Qc hq.1.2;have q3:=Qc hq.2;subst q1 q2 q3;have c1:=hC (i+m<=k) (by simp);have hl:=S.ob hb (by simp);have key:=Qtp (P:=P) (E:=E) (kp:=kp) (n:=n) (ops:=ops) (ty:=ty) (ps:=ps) (af:=af) hx' hl hap hs0 hz (Qxu _) (by rw [Wp];exact Nat.mul_le_mul_right _ c1);refine key.wk ?_
       have hl2:(st.as.set r (.row (Qs (lzC k s' f) (i * s') (WT z m)) t s' 0)).ob r=.row (Qs (lzC k s' f) (i * s') (WT z m)) t s' 0:=by
        show look OB.dead (_::_) r=_;rw [Qb,if_pos rfl]
       have w:=QhF (E:=E) (kp:=kp) (n:=n) r (i * s') hl2 (Qxu _);rw [QdK,Qh2 f (by omega)] at w;refine w.trans fun a w hs=>?_;refine Sat.congr (st:=⟨st.as.slots,(r,.row (lzC i s' f) t s' 0)::(r,.row (Qs (lzC k s' f) (i * s') (WT z m)) t s' 0)::st.as.heap⟩) (fun s=>rfl) (fun q=>?_) hs;show look OB.dead ((r,OB.row (lzC i s' f) t s' 0)::st.as.heap) q=look OB.dead ((r,_)::(r,_)::st.as.heap) q;rw [Qb,Qb,Qb];split <;> rfl
     ·cases h
    ·cases h
   ·cases h
  ·cases h
 ·cases h
end
end
end Go.Proofs.YtcebndkiagbddaaGreatDoor
