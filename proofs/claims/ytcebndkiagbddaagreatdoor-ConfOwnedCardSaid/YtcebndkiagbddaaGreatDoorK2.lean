/- A part of the proof: contracts of functions and what they stand on. Written shorter and merged by a program (pack.py). -/
import Derived.WalkKit
import Derived.WalkSpells
import Derived.WalkLawsBesides
import Derived.Deep.QuietTactic
import Derived.BigQuiet
import Derived.Deep.RegionHeld3
import Derived.Lib.Hide
import Derived.Laws.StructEq
import Derived.Laws.Pointers
import Derived.Maps.RangeRun
import Derived.Test.YtcebndkiagbddaaGreatDoorK1
set_option linter.unusedVariables false
set_option linter.unusedSimpArgs false
set_option maxRecDepth 100000
set_option maxHeartbeats 4000000
open Nat renaming blt -> Qxo, le_refl -> Qxv, mul_one -> Qxy, succ_mul -> QxC, beq -> QxE, eq_of_beq_eq_true -> QxF
open Option renaming map_some -> Qxp, map_none -> Qxt, some -> Qxz, bind_some -> QxH
open Array renaming length_toList -> Qxq
open List renaming take_of_length_le -> Qxr, map_cons -> Qxs, eq_nil_of_length_eq_zero -> Qxu, map_nil -> Qxw, getElem?_map -> Qxx, map_toArray -> QxA, getElem?_eq_getElem -> QxB, length_eq_zero_iff -> QxD, getElem?_eq_none -> QxG
namespace Go.Proofs.YtcebndkiagbddaaGreatDoor
section
open Go.RowKit
abbrev Zj (l:List UInt8):PV:=.v (.string ⟨l.toArray⟩)
abbrev b8P (c:UInt8):PV:=.v (.int .u8 (c.toNat:Int))
abbrev Qch (i:Int):PV:=.v (.int .i64 i)
abbrev VF (b:Bool):PV:=.v (.bool b)
def WS (l:List UInt8):PV:=.sl (l.map b8P) l.length
section
variable {P:Program} {E:Env} {kp:List Nat} {n:Nat} {ops:Array Oper} {st st':AS} {d:Nat} {ty:TypeId} {ps:String} {af:Array Edge}
theorem WI {b:Builtin} {args:Array Operand} {T:Array TypeId} (x:AV) (hd:Qxo d n=true)
  (h:∀ (a:Act) (w:World) (φ:Qi) (Pub:Nat->Nat->Prop),Inv E kp φ Pub st.heap w->(∀ y,RA w Pub φ (st.ev y) (a.eval y)) ->
   ∃ u,(builtin b T ty (args.map fun | .const _=>true | _=>false) (args.map a.eval)).run P w=.ok (.value u) w/\RA w Pub φ x u) :
  Qd P E kp n ops ⟨some d,.call { callee:=.builtin b,args,argTypes:=T },ty,ps,af,none⟩ st (st.put d x) :=
 Qw x rfl rfl hd fun a w φ Pub I hs=>by
  obtain ⟨u,hr,hx⟩:=h a w φ Pub I hs;refine ⟨u,?_,hx⟩;simp only [execOp,resolve,invoke,Sem.run_bind,Sem.run_pure,Result.andThen_ok];exact hr
section
variable {T:TypeId} {x:Operand} (hd:Qxo d n=true)
include hd
theorem QfT {e s m:Nat} {cells:List PV} (hx:Gv (st.ev x) (.p (.sl cells m))) (hT:X8 P T=some (e,s)):Qd P E kp n ops ⟨some d,.call { callee:=.builtin .len,args:=#[x],argTypes:=#[T] },ty,ps,af,none⟩ st (st.put d (.p (Qch m))) :=
 WI _ hd fun a w φ Pub I hR=>by
  have h:=hx _ _ _ _ (hR x);unfold RA RP at h;obtain ⟨ad,c,e1,_⟩:=h;exact ⟨.int .i64 m,by simp [builtin,Builtin.len_,run_underlying (Zv hT).1,e1,goInt],by simp [RA,RP]⟩
theorem Qpd {e s m c:Nat} {ad:Option Addr} (hx:Gv (st.ev x) (.p (.v (.slice ad m c)))) (hT:X8 P T=some (e,s)):Qd P E kp n ops ⟨some d,.call { callee:=.builtin .len,args:=#[x],argTypes:=#[T] },ty,ps,af,none⟩ st (st.put d (.p (Qch m))) :=
 WI _ hd fun a w φ Pub I hR=>by
  have e1:=hx.v (hR x);exact ⟨.int .i64 m,by simp [builtin,Builtin.len_,run_underlying (Zv hT).1,e1,goInt],by simp [RA,RP]⟩
theorem Qpe {e s m r:Nat} (hx:Gv (st.ev x) (.osl r m)) (hT:X8 P T=some (e,s)):Qd P E kp n ops ⟨some d,.call { callee:=.builtin .len,args:=#[x],argTypes:=#[T] },ty,ps,af,none⟩ st (st.put d (.p (Qch m))) :=
 WI _ hd fun a w φ Pub I hR=>by
  have h:=hx _ _ _ _ (hR x);unfold RA at h;rcases h with ⟨b,c,_,e1,_⟩ | ⟨_,rfl,e1⟩
  ·exact ⟨.int .i64 m,by simp [builtin,Builtin.len_,run_underlying (Zv hT).1,e1,goInt],by simp [RA,RP]⟩
  ·exact ⟨.int .i64 0,by simp [builtin,Builtin.len_,run_underlying (Zv hT).1,e1,goInt],by simp [RA,RP]⟩
theorem Qpf {l:List UInt8} (hx:Gv (st.ev x) (.p (Zj l))) (hT:P.underlying T=some .string):Qd P E kp n ops ⟨some d,.call { callee:=.builtin .len,args:=#[x],argTypes:=#[T] },ty,ps,af,none⟩ st (st.put d (.p (Qch l.length))) :=
 WI _ hd fun a w φ Pub I hR=>by
  have e1:=hx.v (hR x);have e2:(⟨l.toArray⟩:ByteArray).size=l.length:=rfl;exact ⟨.int .i64 l.length,by simp [builtin,Builtin.len_,run_underlying hT,e1,goInt,e2],by simp [RA,RP]⟩
end
section
variable {T1 T2 T3 T4:TypeId} {x y:Operand} {i j:Int} (hx:Gv (st.ev x) (.p (Qch i))) (hy:Gv (st.ev y) (.p (Qch j))) (hd:Qxo d n=true)
include hx hy hd
theorem S_min (hty:P.underlying ty=some (.int .i64)):Qd P E kp n ops ⟨some d,.call { callee:=.builtin .min,args:=#[x,y],argTypes:=#[T1,T2] },ty,ps,af,none⟩ st (st.put d (.p (Qch (min i j)))) :=
 WI _ hd fun a w φ Pub I hR=>by
  have e1:=hx.v (hR x);have e2:=hy.v (hR y);refine ⟨.int .i64 (min i j),?_,by simp [RA,RP]⟩;have e:min i j=if j < i then j else i:=by split <;> omega
  rw [e];simp only [builtin,QxA,Qxs,Qxw,e1,e2];rfl
theorem S_max (hty:P.underlying ty=some (.int .i64)):Qd P E kp n ops ⟨some d,.call { callee:=.builtin .max,args:=#[x,y],argTypes:=#[T1,T2] },ty,ps,af,none⟩ st (st.put d (.p (Qch (max i j)))) :=
 WI _ hd fun a w φ Pub I hR=>by
  have e1:=hx.v (hR x);have e2:=hy.v (hR y);refine ⟨.int .i64 (max i j),?_,by simp [RA,RP]⟩;have e:max i j=if i < j then j else i:=by split <;> omega
  rw [e];simp only [builtin,QxA,Qxs,Qxw,e1,e2];rfl
end
theorem Qnl {T T':TypeId} {x:Operand} {k k':IntKind} {dd:TypeDesc} {i r:Int} (hx:Gv (st.ev x) (.p (.v (.int k i)))) (h1:P.underlying T=some dd) (h2:P.underlying T'=some (.int k')) (hr:k'.wrap i=r) (hd:Qxo d n=true) :
  Qd P E kp n ops ⟨some d,.convert T T' x,ty,ps,af,none⟩ st (st.put d (.p (.v (.int k' r)))) :=
 Qw _ rfl rfl hd fun a w φ Pub I hR=>by
  have e1:=hx.v (hR x);exact ⟨.int k' r,by simp [execOp,e1,convert,run_underlying h1,run_underlying h2,Conv.intToInt,hr],by simp [RA,RP]⟩
theorem Qnm {T T':TypeId} {x:Operand} {l:List UInt8} (hx:Gv (st.ev x) (.p (Zj l))) (h1:P.underlying T=some .string) (h2:P.underlying T'=some .string) (hd:Qxo d n=true) :
  Qd P E kp n ops ⟨some d,.convert T T' x,ty,ps,af,none⟩ st (st.put d (.p (Zj l))) :=
 Qw _ rfl rfl hd fun a w φ Pub I hR=>by
  have e1:=hx.v (hR x);exact ⟨.string ⟨l.toArray⟩,by simp [execOp,e1,convert,run_underlying h1,run_underlying h2],by simp [RA,RP]⟩
theorem QlH {w:World} {Pub:Nat->Nat->Prop}:∀ {l:List UInt8} {vs:List Value},RPs w Pub (l.map b8P) vs->vs=l.map fun c=>Value.int .u8 (c.toNat:Int)
 | [],vs,h=>by simp only [Qxw] at h;unfold RPs at h;exact h
 | c::l,vs,h=>by
  rw [Qxs] at h;unfold RPs at h;obtain ⟨u,us,rfl,h1,h2⟩:=h;unfold RP at h1;rw [QlH h2,h1];rfl
theorem QfU {w:World} {Pub:Nat->Nat->Prop}:∀ (l:List UInt8),RPs w Pub (l.map b8P) (l.map fun c=>Value.int .u8 (c.toNat:Int))
 | []=>by simp only [Qxw];unfold RPs;rfl
 | c::l=>by rw [Qxs,Qxs];unfold RPs;exact ⟨_,_,rfl,by unfold RP;rfl,QfU l⟩
theorem Qnn (l:List UInt8):∀ (s:ByteArray),(l.map (fun b=>(b.toNat:Int))).foldl (fun r n=>r.push (UInt8.ofNat n.toNat)) s=⟨s.data++l.toArray⟩:=by
 induction l with
 | nil=>intro s;simp
 | cons b l ih=>intro s;rw [Qxs,List.foldl_cons,ih];simp [ByteArray.push]
theorem QcY {T T' e:TypeId} {x:Operand} {l:List UInt8} (hx:Gv (st.ev x) (.p (WS l))) (h1:P.underlying T=some (.slice e)) (h3:P.underlying e=some (.int .u8)) (h2:P.underlying T'=some .string) (hd:Qxo d n=true) :
  Qd P E kp n ops ⟨some d,.convert T T' x,ty,ps,af,none⟩ st (st.put d (.p (Zj l))) :=
 Qw _ rfl rfl hd fun a w φ Pub I hR=>by
  have h:=hx _ _ _ _ (hR x);unfold WS at h;unfold RA RP at h;obtain ⟨ad,c,e1,k1,k2,k3,k4⟩:=h;refine ⟨.string ⟨l.toArray⟩,?_,by simp [RA,RP]⟩
  have hrun:(convert T T' (a.eval x)).run P w=.ok (.string ⟨l.toArray⟩) w:=by
   rw [e1,run_convert_bytes_string w T T' e ad l.length c h1 h3 h2]
   cases ad with
   | none =>
    have:=k3 rfl;have hl:l=[]:=QxD.1 (by omega);subst hl;rfl
   | some ad =>
    rcases k4 with k4 | ⟨b,o,e2,k4⟩
    ·have hl:l=[]:=QxD.1 k4;subst hl;rw [run_bytesToString w ad _ c [] (by simp [loadCells,loadCellsFrom])];rfl
    ·injection e2 with e2;subst e2;obtain ⟨vs,c1,c2,c3⟩:=Qac k4;have hv:=QlH c1
     have hld:(loadCells ⟨b,o,none⟩ l.length).run P w=.ok ((l.map (fun b=>(b.toNat:Int))).map (Value.int .u8)).toArray w:=by
      have:=run_loadCells_list (P:=P) w ⟨b,o,none⟩ vs (fun j u hu=>by rw [Addr.add_mid];exact c3 j u hu);rw [hv] at this;rw [List.map_map];simp only [List.length_map] at this;exact this
     rw [run_bytesToString w _ l.length c _ hld,Qnn];simp [ByteArray.empty,ByteArray.emptyWithCapacity];rfl
  simp only [execOp];rw [Sem.run_bind,hrun];rfl
theorem QjX {T T' e:TypeId} {x:Operand} {l:List UInt8} (r:Nat) (hx:Gv (st.ev x) (.p (Zj l))) (h1:P.underlying T=some .string) (h2:P.underlying T'=some (.slice e)) (h3:P.underlying e=some (.int .u8)) (hlen:l.length<=140737488355328) (he:e=5)
  (hf:st.free kp r=true) (hd:Qxo d n=true):Qd P E kp n ops ⟨some d,.convert T T' x,ty,ps,af,none⟩ st ⟨(d,.osl r l.length)::st.slots,(r,.row (l.map b8P) e 1 0)::st.heap⟩:=by
 refine Qd.val rfl fun a w ⟨φ,Pub,I,h0,hn,hs⟩=>?_;obtain ⟨f1,f2,f3,f4⟩:=Qu hf;have e1:=hx.v (Za (h:=st.heap) hs x);have hsz:(⟨l.toArray⟩:ByteArray).size=l.length:=rfl;have hr:=run_bytes_of_string (P:=P) w T T' e ⟨l.toArray⟩ h1 h2 h3;rw [hsz] at hr;have hge:=grownCap_ge w l.length 0 e;have hcm:grownCap w l.length 0 e<=maxLen:=grownCap_le_maxLen w l.length 0 e (by unfold maxLen;omega)
 have hbr:(bytesRow ⟨l.toArray⟩ (grownCap w l.length 0 e)).toList=(l.map fun c=>Value.int .u8 (c.toNat:Int))++List.replicate (grownCap w l.length 0 e - l.length) (.int .u8 0):=by
  simp [bytesRow,hsz]
 have hsize:(bytesRow ⟨l.toArray⟩ (grownCap w l.length 0 e)).size=grownCap w l.length 0 e:=by
  rw [<- Qxq,hbr];simp;omega
 have htk:(bytesRow ⟨l.toArray⟩ (grownCap w l.length 0 e)).toList.take (l.map b8P).length=l.map fun c=>Value.int .u8 (c.toNat:Int):=by
  rw [hbr,show (l.map b8P).length=(l.map fun c=>Value.int .u8 (c.toNat:Int)).length from by simp];exact List.take_left
 have I':=I.drew.alloc f1 f2 f4 (.cells (bytesRow ⟨l.toArray⟩ (grownCap w l.length 0 e)) e ((bytesRow ⟨l.toArray⟩ (grownCap w l.length 0 e)).size,(bytesRow ⟨l.toArray⟩ (grownCap w l.length 0 e)).size+1)) (grownCap w l.length 0 e)
  (ob:=.row (l.map b8P) e 1 0) (.inr ⟨w.heap.size,_,_,_,if_pos rfl,⟨heap_alloc_new w.drew _,.inr ⟨Qxv _,he⟩⟩,hcm,by rw [hsize,Qxy],by rw [hsize];simpa using hge,by rw [htk];exact QfU l,by
   rw [htk];intro u hu;rw [List.mem_map] at hu;obtain ⟨c,_,rfl⟩:=hu;rfl,fun i hp=>by have:=I.publ _ _ hp;exact absurd this (Nat.lt_irrefl _)⟩)
 refine ⟨_,_,?_,Sat.put I' h0 hn (fun s=>QF ((XB).trans (ZI I.drew _)) _ _ (fun q hq=>if_neg (fun e=>by subst e;rw [Wf f3] at hq;cases hq)) (hs s)) hd (u:=.slice (some ⟨w.heap.size,0,none⟩) l.length (grownCap w l.length 0 e)) (by unfold RA;exact .inl ⟨_,_,if_pos rfl,rfl,hge⟩)⟩;simp only [execOp,e1];rw [Sem.run_bind,hr];rfl
theorem Qbg {w:World} {Pub:Nat->Nat->Prop} {cells:List PV} {m l h s c:Nat} {a:Option Addr} (hk:RP w Pub (.sl cells m) (.slice a m c)) (h1:l<=h) (h2:h<=m) (hlen:m * s<=cells.length) :
  RP w Pub (.sl ((cells.drop (l * s)).take ((h - l) * s)) (h - l)) (sliced a l h c s):=by
 unfold RP at hk ⊢;obtain ⟨a',c',e,k1,k2,k3,k4⟩:=hk;injection e with e1 e2 e3;subst e1 e3;refine ⟨_,_,rfl,by omega,by omega,fun ha=>?_,?_⟩
 ·split at ha
  ·have:=k3 ha;omega
  ·cases a with
   | none=>have:=k3 rfl;omega
   | some a=>cases ha
 ·rcases Nat.eq_zero_or_pos (h - l) with h0 | h0
  ·exact .inl h0
  ·rcases k4 with k4 | ⟨b,o,rfl,k4⟩
   ·omega
   ·refine .inr ⟨b,o+l * s,?_,Qhd _ (Qhc _ k4)⟩;rw [if_neg (by omega)];simp [Addr.add_mid]
theorem Qai {T e:TypeId} {s:Nat} (hT:X8 P T=some (e,s)):P.elem T=e:=by
 unfold Program.elem;rw [(Zv hT).1]
section
variable {T e:TypeId} {x:Operand} {s m:Nat} {cells:List PV} {k:IntKind} {i j:Int} (hx:Gv (st.ev x) (.p (.sl cells m))) (hT:X8 P T=some (e,s)) (hlen:m * s<=cells.length) (hd:Qxo d n=true)
include hx hT hlen hd
theorem Qpg {lo:Operand} (hlo:Gv (st.ev lo) (.p (.v (.int k i)))) (h0:0<=i) (h1:i<=m) :
  Qd P E kp n ops ⟨some d,.slice T x (some lo) none none,ty,ps,af,none⟩ st (st.put d (.p (.sl ((cells.drop (i.toNat * s)).take ((m - i.toNat) * s)) (m - i.toNat)))) :=
 Qw _ rfl rfl hd fun a w φ Pub I hR=>by
  have h:=hx _ _ _ _ (hR x);unfold RA at h;have h':=h;unfold RP at h';obtain ⟨ad,c,e1,_⟩:=h';rw [e1] at h;have hu:=(Zv hT).1;have hel:=Qai hT;refine ⟨sliced ad i.toNat m c s,?_,by unfold RA;exact Qbg h (by omega) (Qxv _) hlen⟩;have hu':P.underlying T=some (.slice (P.elem T)):=by rw [hel];exact hu
  simp only [execOp,e1,Qxp,Qxt,hlo.v (hR lo)];rw [Sem.run_bind,run_sliceAt_slice (w:=w) T _ _ _ _ hu',run_slice_l (w:=w) T ad m c hu' k i h0 h1,hel,Qp (Zv hT).2];rfl
theorem Qph {hi:Operand} (hhi:Gv (st.ev hi) (.p (.v (.int k j)))) (h0:0<=j) (h1:j<=m) :
  Qd P E kp n ops ⟨some d,.slice T x none (some hi) none,ty,ps,af,none⟩ st (st.put d (.p (.sl (cells.take (j.toNat * s)) j.toNat))) :=
 Qw _ rfl rfl hd fun a w φ Pub I hR=>by
  have h:=hx _ _ _ _ (hR x);unfold RA at h;have h':=h;unfold RP at h';obtain ⟨ad,c,e1,hmc,_⟩:=h';rw [e1] at h;have hu:=(Zv hT).1;have hel:=Qai hT;have hu':P.underlying T=some (.slice (P.elem T)):=by rw [hel];exact hu
  refine ⟨sliced ad 0 j.toNat c s,?_,?_⟩
  ·simp only [execOp,e1,Qxp,Qxt,hhi.v (hR hi)];rw [Sem.run_bind,run_sliceAt_slice (w:=w) T _ _ _ _ hu',run_slice_h (w:=w) T ad m c hu' k j h0 (by omega),hel,Qp (Zv hT).2];rfl
  ·have:=Qbg h (Nat.zero_le j.toNat) (by omega) hlen;unfold RA;simpa using this
theorem Qhk {lo hi:Operand} {k':IntKind} (hlo:Gv (st.ev lo) (.p (.v (.int k i)))) (hhi:Gv (st.ev hi) (.p (.v (.int k' j)))) (h0:0<=i) (h1:i<=j) (h2:j<=m) :
  Qd P E kp n ops ⟨some d,.slice T x (some lo) (some hi) none,ty,ps,af,none⟩ st (st.put d (.p (.sl ((cells.drop (i.toNat * s)).take ((j.toNat - i.toNat) * s)) (j.toNat - i.toNat)))) :=
 Qw _ rfl rfl hd fun a w φ Pub I hR=>by
  have h:=hx _ _ _ _ (hR x);unfold RA at h;have h':=h;unfold RP at h';obtain ⟨ad,c,e1,hmc,_⟩:=h';rw [e1] at h;have hu:=(Zv hT).1;have hel:=Qai hT;have hu':P.underlying T=some (.slice (P.elem T)):=by rw [hel];exact hu
  refine ⟨sliced ad i.toNat j.toNat c s,?_,by unfold RA;exact Qbg h (by omega) (by omega) hlen⟩;simp only [execOp,e1,Qxp,Qxt,hlo.v (hR lo),hhi.v (hR hi)];rw [Sem.run_bind,run_sliceAt_slice (w:=w) T _ _ _ _ hu',run_slice_lh (w:=w) T ad m c hu' k k' i j h0 h1 (by omega),hel,Qp (Zv hT).2];rfl
end
theorem Qpi {l:List UInt8} {i:Nat} (h:i < l.length):(l.map b8P)[i]? = some (b8P (l.getD i 0)):=by
 rw [Qxx,QxB h,List.getD_eq_getElem?_getD,QxB h];rfl
theorem QjY {T:TypeId} {x:Operand} {l:List UInt8} {off:Nat} (hd:Qxo d n=true) (hx:Gv (st.ev x) (.p (.pp (l.map b8P) off))) (hT:Q4 P T=some false) (h:off < l.length) :
  Qd P E kp n ops ⟨some d,.load T x,ty,ps,af,none⟩ st (st.put d (.p (b8P (l.getD off 0)))):=QcW hd hx hT (Qpi h)
theorem Qhl {T t:TypeId} {x:Operand} {l:List UInt8} {r off sz pub:Nat} (hd:Qxo d n=true) (hx:Gv (st.ev x) (.own r off)) (hT:Q4 P T=some false) (hl:st.ob r=.row (l.map b8P) t sz pub) (h:off < l.length) :
  Qd P E kp n ops ⟨some d,.load T x,ty,ps,af,none⟩ st (st.put d (.p (b8P (l.getD off 0)))):=Qbf hd hx hT hl (Qpi h)
section
variable {T e:TypeId} {x:Operand} {l:List UInt8} {k:IntKind} {i j:Int} {p q:Nat} (hx:Gv (st.ev x) (.p (WS l))) (hT:X8 P T=some (e,1)) (hd:Qxo d n=true)
include hx hT hd
theorem QvQ {lo:Operand} (hlo:Gv (st.ev lo) (.p (.v (.int k i)))) (hi:i.toNat=p) (h0:0<=i) (h1:i<=l.length) :
  Qd P E kp n ops ⟨some d,.slice T x (some lo) none none,ty,ps,af,none⟩ st (st.put d (.p (WS (l.drop p)))):=by
 subst hi;have h:=Qpg (st:=st) (P:=P) (E:=E) (kp:=kp) (n:=n) (ops:=ops) (ty:=ty) (ps:=ps) (af:=af) hx hT (by simp) hd hlo h0 h1
 have e:PV.sl (((l.map b8P).drop (i.toNat * 1)).take ((l.length - i.toNat) * 1)) (l.length - i.toNat)=WS (l.drop i.toNat):=by
  unfold WS;rw [Qxy,Qxy,Qxr (by simp),List.length_drop,List.map_drop]
 rw [e] at h;exact h
theorem QvR {hi:Operand} (hhi:Gv (st.ev hi) (.p (.v (.int k j)))) (hj:j.toNat=q) (h0:0<=j) (h1:j<=l.length) :
  Qd P E kp n ops ⟨some d,.slice T x none (some hi) none,ty,ps,af,none⟩ st (st.put d (.p (WS (l.take q)))):=by
 subst hj;have h:=Qph (st:=st) (P:=P) (E:=E) (kp:=kp) (n:=n) (ops:=ops) (ty:=ty) (ps:=ps) (af:=af) hx hT (by simp) hd hhi h0 h1
 have e:PV.sl ((l.map b8P).take (j.toNat * 1)) j.toNat=WS (l.take j.toNat):=by
  unfold WS;rw [Qxy,List.length_take,Nat.min_eq_left (by omega),List.map_take]
 rw [e] at h;exact h
theorem Qpj {lo hi:Operand} {k':IntKind} (hlo:Gv (st.ev lo) (.p (.v (.int k i)))) (hhi:Gv (st.ev hi) (.p (.v (.int k' j)))) (hi':i.toNat=p) (hj:j.toNat=q) (h0:0<=i) (h1:i<=j) (h2:j<=l.length) :
  Qd P E kp n ops ⟨some d,.slice T x (some lo) (some hi) none,ty,ps,af,none⟩ st (st.put d (.p (WS ((l.drop p).take (q - p))))):=by
 subst hi' hj;have h:=Qhk (st:=st) (P:=P) (E:=E) (kp:=kp) (n:=n) (ops:=ops) (ty:=ty) (ps:=ps) (af:=af) hx hT (by simp) hd hlo hhi h0 h1 h2
 have e:PV.sl (((l.map b8P).drop (i.toNat * 1)).take ((j.toNat - i.toNat) * 1)) (j.toNat - i.toNat)=WS ((l.drop i.toNat).take (j.toNat - i.toNat)):=by
  unfold WS;rw [Qxy,Qxy,List.length_take,List.length_drop,Nat.min_eq_left (by omega),List.map_take,List.map_drop]
 rw [e] at h;exact h
end
end
end
section
open Go.RowKit
section
variable {P:Program} {E:Env} {kp:List Nat} {n:Nat} {ops:Array Oper} {st st':AS} {d:Nat} {ty:TypeId} {ps:String} {af:Array Edge}
theorem VG (l:List UInt8) (i j:Nat):(⟨l.toArray⟩:ByteArray).extract i j=⟨((l.drop i).take (j - i)).toArray⟩:=by
 apply ByteArray.ext;simp [ByteArray.data_extract,List.take_drop]
section
variable {T:TypeId} {x:Operand} {l:List UInt8} {k:IntKind} {i j:Int} (hx:Gv (st.ev x) (.p (Zj l))) (hT:P.underlying T=some .string) (hd:Qxo d n=true)
include hx hT hd
theorem QsL {lo:Operand} (hlo:Gv (st.ev lo) (.p (.v (.int k i)))) (h0:0<=i) (h1:i<=l.length) :
  Qd P E kp n ops ⟨some d,.slice T x (some lo) none none,ty,ps,af,none⟩ st (st.put d (.p (Zj (l.drop i.toNat)))) :=
 Qw _ rfl rfl hd fun a w φ Pub I hR=>by
  refine ⟨.string ⟨(l.drop i.toNat).toArray⟩,?_,by simp [RA,RP]⟩;have hsz:(⟨l.toArray⟩:ByteArray).size=l.length:=rfl
  have he:(⟨l.toArray⟩:ByteArray).extract i.toNat l.length=⟨(l.drop i.toNat).toArray⟩:=by
   rw [VG,Qxr (by simp)]
  simp only [execOp,hx.v (hR x),Qxp,Qxt,hlo.v (hR lo)];rw [Sem.run_bind,run_sliceAt_string (w:=w) T _ _ _ _ hT];simp [Instr.slice,run_underlying hT,Instr.sliceBounds,run_sliceBound,h0,h1,hsz,he]
theorem QsM {hi:Operand} (hhi:Gv (st.ev hi) (.p (.v (.int k j)))) (h0:0<=j) (h1:j<=l.length) :
  Qd P E kp n ops ⟨some d,.slice T x none (some hi) none,ty,ps,af,none⟩ st (st.put d (.p (Zj (l.take j.toNat)))) :=
 Qw _ rfl rfl hd fun a w φ Pub I hR=>by
  refine ⟨.string ⟨(l.take j.toNat).toArray⟩,?_,by simp [RA,RP]⟩;have hsz:(⟨l.toArray⟩:ByteArray).size=l.length:=rfl
  have he:(⟨l.toArray⟩:ByteArray).extract 0 j.toNat=⟨(l.take j.toNat).toArray⟩:=by
   rw [VG];simp
  simp only [execOp,hx.v (hR x),Qxp,Qxt,hhi.v (hR hi)];rw [Sem.run_bind,run_sliceAt_string (w:=w) T _ _ _ _ hT];simp [Instr.slice,run_underlying hT,Instr.sliceBounds,run_sliceBound,h0,h1,hsz,he]
theorem Qno {lo hi:Operand} {k':IntKind} (hlo:Gv (st.ev lo) (.p (.v (.int k i)))) (hhi:Gv (st.ev hi) (.p (.v (.int k' j)))) (h0:0<=i) (h1:i<=j) (h2:j<=l.length) :
  Qd P E kp n ops ⟨some d,.slice T x (some lo) (some hi) none,ty,ps,af,none⟩ st (st.put d (.p (Zj ((l.drop i.toNat).take (j.toNat - i.toNat))))) :=
 Qw _ rfl rfl hd fun a w φ Pub I hR=>by
  refine ⟨.string ⟨((l.drop i.toNat).take (j.toNat - i.toNat)).toArray⟩,?_,by simp [RA,RP]⟩;have hsz:(⟨l.toArray⟩:ByteArray).size=l.length:=rfl;have he:=VG l i.toNat j.toNat;have hj:0<=j:=by omega
  have hj2:(j.toNat:Int)=j:=by omega
  simp only [execOp,hx.v (hR x),Qxp,Qxt,hlo.v (hR lo),hhi.v (hR hi)];rw [Sem.run_bind,run_sliceAt_string (w:=w) T _ _ _ _ hT];simp [Instr.slice,run_underlying hT,Instr.sliceBounds,run_sliceBound,h0,h1,h2,hj,hj2,hsz,he]
end
theorem XF {op:BinOp} {T T':TypeId} {x y:Operand} {l m:List UInt8} {r:Bool} (hx:Gv (st.ev x) (.p (Zj l))) (hy:Gv (st.ev y) (.p (Zj m))) (hd:Qxo d n=true)
  (hr:∀ w,Sem.run P (do eqGuard op T x y (.string ⟨l.toArray⟩) (.string ⟨m.toArray⟩);binOp op T (.string ⟨l.toArray⟩) (.string ⟨m.toArray⟩)) w=.ok (.bool r) w) :
  Qd P E kp n ops ⟨some d,.binOp op T x y T',ty,ps,af,none⟩ st (st.put d (.p (VF r))):=Zu hx hy hd hr
theorem W6 (l:List UInt8):(⟨l.toArray⟩:ByteArray).toList=l:=by simp
theorem YE (l m:List UInt8):(l == m)=decide (l=m):=by rw [Bool.eq_iff_iff];simp
theorem QsN {T T':TypeId} {x y:Operand} {l m:List UInt8} (hx:Gv (st.ev x) (.p (Zj l))) (hy:Gv (st.ev y) (.p (Zj m))) (hd:Qxo d n=true) :
  Qd P E kp n ops ⟨some d,.binOp .eql T x y T',ty,ps,af,none⟩ st (st.put d (.p (VF (decide (l=m))))):=XF hx hy hd fun w=>by
 simp only [eqGuard,binOp,Op.stringOp,W6,YE];rfl
theorem QsO {T T':TypeId} {x y:Operand} {l m:List UInt8} (hx:Gv (st.ev x) (.p (Zj l))) (hy:Gv (st.ev y) (.p (Zj m))) (hd:Qxo d n=true) :
  Qd P E kp n ops ⟨some d,.binOp .neq T x y T',ty,ps,af,none⟩ st (st.put d (.p (VF (!decide (l=m))))):=XF hx hy hd fun w=>by
 simp only [eqGuard,binOp,Op.stringOp,W6,YE];rfl
theorem QsP {T T':TypeId} {x y:Operand} {l m:List UInt8} (hx:Gv (st.ev x) (.p (Zj l))) (hy:Gv (st.ev y) (.p (Zj m))) (hd:Qxo d n=true) :
  Qd P E kp n ops ⟨some d,.binOp .lss T x y T',ty,ps,af,none⟩ st (st.put d (.p (VF (Op.bytesLess l m)))):=XF hx hy hd fun w=>by
 simp only [eqGuard,binOp,Op.stringOp,W6,YE];rfl
theorem QsQ {T T':TypeId} {x y:Operand} {l m:List UInt8} (hx:Gv (st.ev x) (.p (Zj l))) (hy:Gv (st.ev y) (.p (Zj m))) (hd:Qxo d n=true) :
  Qd P E kp n ops ⟨some d,.binOp .leq T x y T',ty,ps,af,none⟩ st (st.put d (.p (VF (Op.bytesLess l m || decide (l=m))))):=XF hx hy hd fun w=>by
 simp only [eqGuard,binOp,Op.stringOp,W6,YE];rfl
theorem Qpk {T T':TypeId} {x y:Operand} {l m:List UInt8} (hx:Gv (st.ev x) (.p (Zj l))) (hy:Gv (st.ev y) (.p (Zj m))) (hlen:l.length+m.length<=9223372036854775807) (hd:Qxo d n=true) :
  Qd P E kp n ops ⟨some d,.binOp .add T x y T',ty,ps,af,none⟩ st (st.put d (.p (Zj (l++m)))):=Zu hx hy hd fun w=>by
 have h1:(⟨l.toArray⟩:ByteArray).size=l.length:=rfl;have h2:(⟨m.toArray⟩:ByteArray).size=m.length:=rfl
 have h3:(⟨l.toArray⟩:ByteArray)++⟨m.toArray⟩=⟨(l++m).toArray⟩:=by
  apply ByteArray.ext;simp
 have h4:¬ (((l.length+m.length:Nat):Int) > IntKind.i64.max):=by
  rw [show IntKind.i64.max=9223372036854775807 from rfl];omega
 simp only [eqGuard,binOp,Op.stringOp,h1,h2,h3,if_neg h4];rfl
def Y8 (pl:List (Nat×Nat)):List AV->List (Nat×AV)->Option (List AV)
 | cells,[]=>some cells
 | cells,(i,x)::rest =>
  match pl[i]? with
  | none=>none
  | some (o,s)=>if x.cs.length=s/\o+s<=cells.length/\WZ x.cs=true then Y8 pl (Qs cells o x.cs) rest else none
theorem QjZ (xs:List Value):∀ (j o:Nat) (cs:Array Value),((xs.zipIdx j).foldl (fun cs (p:Value×Nat)=>cs.setIfInBounds (o+p.2) p.1) cs).toList=Qs cs.toList (o+j) xs:=by
 induction xs with
 | nil=>intro j o cs;rfl
 | cons x xs ih =>
  intro j o cs;simp only [List.zipIdx_cons,List.foldl_cons];rw [ih (j+1) o];simp [Qs,Nat.add_assoc]
theorem QcZ {w:World} {Pub:Nat->Nat->Prop} {φ:Qi} {pl:List (Nat×Nat)} {place:Nat->Option (Nat×Nat)} (hpl:∀ i os,pl[i]? = some os->place i=some os) {a:Act} :
  ∀ {parts:List (Nat×AV)} {us:List (Nat×Value)} {cells out:List AV} {cur:Array Value},Y8 pl cells parts=some out->RAs w Pub φ cells cur.toList ->
   parts.length=us.length->(∀ (j i:Nat) (x:AV),parts[j]? = some (i,x)->∃ u:Value,us[j]? = some (i,u)/\RA w Pub φ x u) ->
   ∃ cur':Array Value,Instr.fill place cur us=some cur'/\RAs w Pub φ out cur'.toList
 | [],us,cells,out,cur,h,hR,hl,_=>by
  simp only [Y8,Qxz.injEq] at h;subst h;have:us=[]:=Qxu hl.symm;subst this;exact ⟨cur,rfl,hR⟩
 | (i,x)::parts,us,cells,out,cur,h,hR,hl,hp=>by
  obtain ⟨u,hu,hxu⟩:=hp 0 i x rfl
  cases us with
  | nil=>simp at hu
  | cons p us =>
   simp only [List.getElem?_cons_zero,Qxz.injEq] at hu;subst hu;simp only [Y8] at h
   cases hq:pl[i]? with
   | none=>rw [hq] at h;cases h
   | some os =>
    obtain ⟨o,s⟩:=os;rw [hq] at h;simp only at h;split at h
    ·next hc =>
     obtain ⟨c1,c2⟩:=Qpc hc.2.2 hxu;have hlc:=QU c1;have hcl:=QU hR;have hsz:u.cells.size=s:=by rw [<- Qxq];omega
     obtain ⟨cur',h1,h2⟩:=QcZ (cur:=(u.cells.zipIdx.foldl (fun cs (p:Value×Nat)=>cs.setIfInBounds (o+p.2) p.1) cur)) hpl (a:=a) h (by
       rw [<- Array.foldl_toList,Array.toList_zipIdx,QjZ,Nat.add_zero];exact Qaf o hR c1) (by simpa using hl) (fun j i y hy=>by
       obtain ⟨v,hv,hyv⟩:=hp (j+1) i y (by simpa using hy)
       exact ⟨v,by simpa using hv,hyv⟩)
     refine ⟨cur',?_,h2⟩;rw [Qxq] at hcl;have hn:¬ (u.cells.size≠s\/o+u.cells.size > cur.size):=by omega
     simp only [Instr.fill,hpl i _ hq];rw [if_neg (by simpa using hn)];exact h1
    ·cases h
theorem Qci {T:TypeId} {fs:Array Field} {pl:List (Nat×Nat)} (hu:P.underlying T=some (.struct fs)) (hp:Qbc P T=some pl) (w:World) :
  (fs.mapM fun f=>(do pure (f.offset,<- sizeOf f.type):Sem (Nat×Nat))).run P w=.ok pl.toArray w:=by
 unfold Qbc at hp;rw [hu] at hp;simp only at hp
 have key:∀ (l:List Field) (pl:List (Nat×Nat)),(l.mapM fun f=>(P.info? f.type).map fun i=>(f.offset,i.size))=some pl->(l.mapM fun f=>(do pure (f.offset,<- sizeOf f.type):Sem (Nat×Nat))).run P w=.ok pl w:=by
  intro l
  induction l with
  | nil=>intro pl h1;simp at h1;subst h1;rfl
  | cons f l ih =>
   intro pl h1;rw [List.mapM_cons] at h1 ⊢
   cases hq:P.info? f.type with
   | none=>rw [hq] at h1;cases h1
   | some fi =>
    rw [hq] at h1
    cases hl:(l.mapM fun f=>(P.info? f.type).map fun i=>(f.offset,i.size)) with
    | none=>simp only [hl] at h1;cases h1
    | some pl' =>
     simp only [hl,Qxp] at h1;cases h1;have hs:(sizeOf f.type).run P w=.ok fi.size w:=Qp (by unfold Zh;rw [hq];rfl) w;simp only [Sem.run_bind,hs,ih pl' hl,Result.andThen_ok,Sem.run_pure]
 have:=key fs.toList pl hp;rw [Array.mapM_eq_mapM_toList]
 change Sem.run P ((List.mapM _ fs.toList) >>= fun l=>pure l.toArray) w=_
 rw [Sem.run_bind,this];rfl
theorem QsR {T:TypeId} {parts:List (Nat×Operand)} {pl:List (Nat×Nat)} {z:List Value} {out:List AV} (hp:Qbc P T=some pl) (hz:QjM P T=some z) (hf:Y8 pl (Qcg z) (parts.map fun p=>(p.1,st.ev p.2))=some out) (hd:Qxo d n=true) :
  Qd P E kp n ops ⟨some d,.build T parts.toArray,ty,ps,af,none⟩ st (st.put d (.agg out)) :=
 Qw _ rfl rfl hd fun a w φ Pub I hR=>by
  obtain ⟨fs,hu⟩:=Qbd hp;obtain ⟨v,hv,hc⟩:=Xt hz w
  obtain ⟨cur',h1,h2⟩:=QcZ (place:=(pl.toArray[·]?)) (a:=a) (fun i os hos=>by simpa using hos) (us:=parts.map fun p=>(p.1,a.eval p.2)) (cur:=z.toArray) hf (XE z) (by simp) (fun j i x hj=>by
   rw [Qxx] at hj ⊢
   cases hq:parts[j]? with
   | none=>rw [hq] at hj;cases hj
   | some p =>
    rw [hq] at hj;simp only [Qxp,Qxz.injEq,Prod.mk.injEq] at hj;obtain ⟨rfl,rfl⟩:=hj
    exact ⟨a.eval p.2,rfl,hR p.2⟩)
  refine ⟨.agg cur',?_,by unfold RA;exact ⟨cur'.toList,by simp,h2⟩⟩
  have hr:(Instr.build T (parts.toArray.map fun (i,x)=>(i,a.eval x))).run P w=.ok (.agg cur') w:=by
   unfold Instr.build;simp only [Sem.run_bind,hv,hc,Result.andThen_ok,run_underlying hu,Qci hu hp];have e:(parts.toArray.map fun (p:Nat×Operand)=>(p.1,a.eval p.2)).toList=parts.map fun p=>(p.1,a.eval p.2):=by simp
   rw [e,h1];rfl
  simp only [execOp];rw [Sem.run_bind];exact (by rw [hr];rfl)
def subS (sl sl':List (Nat×AV)):Prop:=∀ s,Gv (look AV.any sl s) (look AV.any sl' s)
theorem Gv.any {x:AV}:Gv x .any:=fun _ _ _ _ _=>by simp [RA]
theorem subS.nil {sl:List (Nat×AV)}:subS sl []:=fun s=>Gv.any
theorem subS.cons {sl sl':List (Nat×AV)} {s:Nat} {x:AV} (h:Gv (look AV.any sl s) x) (k:subS sl sl'):subS sl ((s,x)::sl'):=fun q=>by
 rw [Qb];by_cases e:s=q
 ·subst e;rw [if_pos rfl];exact h
 ·rw [if_neg e];exact k q
theorem Qpl (s r:Nat) (t:TypeId) (sz:Nat) (h:Gv (look AV.any st.slots s) (.p (.v (.slice none 0 0)))) (hf:st.free kp r=true):Wk E kp n st ⟨(s,.osl r 0)::st.slots,(r,.row [] t sz 0)::st.heap⟩:=by
 rintro a w ⟨φ,Pub,I,h0,hn,hsl⟩;obtain ⟨f1,f2,f3,f4⟩:=Qu hf;refine ⟨_,Pub,I.nilRow f1 f2 f4 t sz 0,h0,hn,fun q=>?_⟩;simp only [Qb];split
 ·next e=>subst e;unfold RA;exact .inr ⟨if_pos rfl,rfl,h.v (hsl s)⟩
 ·exact Z6 (Adv.refl _ _) (Wf f3) (hsl q)
def shA (r:Nat) (cells:List PV):AV->AV
 | .own q off=>bif QxE q r then .p (.pp cells off) else .own q off
 | .osl q m=>bif QxE q r then .p (.sl cells m) else .osl q m
 | .oss q k m s=>bif QxE q r then .any else .oss q k m s
 | x=>x
def shB (r:Nat) (cells:List PV):OB->OB
 | .box cs t=>.box (cs.map (shA r cells)) t
 | x=>x
def shS (r:Nat) (cells:List PV):List (Nat×AV)->List (Nat×AV)
 | []=>[]
 | (s,x)::l=>(s,shA r cells x)::shS r cells l
def shH (r:Nat) (cells:List PV):List (Nat×OB)->List (Nat×OB)
 | []=>[]
 | (s,x)::l=>(s,shB r cells x)::shH r cells l
theorem QeU {w:World} {Pub:Nat->Nat->Prop} {φ:Qi} {r:Nat} {cells:List PV} (h1:∀ b c,φ r=some (b,c)->RPc w Pub cells b 0/\c<=maxLen) (h2:φ r=none->cells=[]) {x:AV} {u:Value} (h:RA w Pub φ x u):RA w Pub φ (shA r cells x) u:=by
 cases x with
 | own q off =>
  simp only [shA]
  cases hq:QxE q r with
  | false=>exact h
  | true =>
   have:=QxF hq;subst this;show RA w Pub φ (.p (.pp cells off)) u;unfold RA at h ⊢;obtain ⟨b,c,e1,e2⟩:=h;unfold RP;exact ⟨b,0,by rw [Nat.zero_add];exact e2,(h1 b c e1).1⟩
 | osl q m =>
  simp only [shA]
  cases hq:QxE q r with
  | false=>exact h
  | true =>
   have:=QxF hq;subst this;show RA w Pub φ (.p (.sl cells m)) u;unfold RA at h ⊢;unfold RP;rcases h with ⟨b,c,e1,e2,e3⟩ | ⟨e1,e2,e3⟩
   ·exact ⟨_,c,e2,e3,(h1 b c e1).2,(fun h=>by cases h),.inr ⟨b,0,rfl,(h1 b c e1).1⟩⟩
   ·subst e2;exact ⟨none,0,e3,Qxv _,by unfold maxLen;omega,fun _=>rfl,.inl rfl⟩
 | oss q k m s =>
  simp only [shA]
  cases hq:QxE q r with
  | false=>exact h
  | true=>show RA w Pub φ .any u;unfold RA;trivial
 | _=>exact h
def AS.share (st:AS) (r:Nat) (cells:List PV) (t:TypeId) (sz:Nat):AS:=⟨shS r cells st.slots,(r,.row cells t sz cells.length)::shH r cells st.heap⟩
def Qbh (P:Program) (T:TypeId):Option (TypeId×Nat×Nat×List Value) :=
 match P.underlying T with
 | some (.slice e)=>(P.info? e).bind fun i=>i.zero.bind fun z=>if z.cells.size=i.size then some (e,i.size,i.bytes,z.cells.toList) else none
 | _=>none
theorem XG {T e:TypeId} {sz bytes:Nat} {z:List Value} (hT:Qbh P T=some (e,sz,bytes,z)):∃ i v,P.underlying T=some (.slice e)/\P.info? e=some i/\i.zero=some v/\i.size=sz/\i.bytes=bytes/\v.cells.size=sz/\v.cells.toList=z:=by
 unfold Qbh at hT;split at hT
 ·next e' h =>
  cases hq:P.info? e' with
  | none=>rw [hq] at hT;cases hT
  | some i =>
   rw [hq] at hT;simp only [QxH] at hT
   cases hz:i.zero with
   | none=>rw [hz] at hT;cases hT
   | some v =>
    rw [hz] at hT;simp only [QxH] at hT;split at hT
    ·next hs =>
     simp only [Qxz.injEq,Prod.mk.injEq] at hT;obtain ⟨rfl,rfl,rfl,rfl⟩:=hT;exact ⟨i,v,h,hq,hz,rfl,rfl,hs,rfl⟩
    ·cases hT
 ·cases hT
def QeV (st:AS) (sz:Nat) (x:AV) (m:Nat) (news:List PV):Prop :=
 ∀ (E:Env) (kp:List Nat) (φ:Qi) (Pub:Nat->Nat->Prop) (w:World) (u:Value),Inv E kp φ Pub st.heap w->RA w Pub φ x u->∃ a c vs,u=.slice a m c/\RPs w Pub news vs/\Src w sz a m vs
theorem QeV.sl {sz m:Nat} {x:AV} {cells:List PV} (hx:Gv x (.p (.sl cells m))) (hl:cells.length=m * sz) (hsz:0 < sz):QeV st sz x m cells:=by
 intro E kp φ Pub w u I h;have h:=hx _ _ _ _ h;unfold RA RP at h;obtain ⟨a,c,rfl,k1,k2,k3,k4⟩:=h;rcases k4 with k4 | ⟨b,o,rfl,k4⟩
 ·subst k4;have hc:cells=[]:=Qxu (by omega);subst hc;refine ⟨a,c,[],rfl,by unfold RPs;rfl,by simp,by simp,?_⟩
  cases a with
  | none=>exact .inl ⟨rfl,rfl⟩
  | some ad=>exact .inr ⟨ad,rfl,by simp⟩
 ·obtain ⟨vs,c1,c2,c3⟩:=Qac k4;exact ⟨_,c,vs,rfl,c1,by rw [Wi c1];exact hl,c2,.inr ⟨_,rfl,fun j v hv=>by rw [Addr.add_mid];exact c3 j v hv⟩⟩
theorem QeV.osl {sz m r pub:Nat} {x:AV} {t:TypeId} {cells:List PV} (hx:Gv x (.osl r m)) (hl:st.ob r=.row cells t sz pub) (hm:m * sz=cells.length) (hsz:0 < sz):QeV st sz x m cells:=by
 intro E kp φ Pub w u I h;have h:=hx _ _ _ _ h;unfold RA at h;rcases h with ⟨b,c,e1,rfl,e3⟩ | ⟨e1,rfl,rfl⟩
 ·obtain ⟨vs,c1,c2,c3⟩:=X9 I hl e1;exact ⟨_,c,vs,rfl,c1,by rw [Wi c1];exact hm.symm,c2,.inr ⟨_,rfl,fun j v hv=>by rw [Addr.add_mid,Nat.zero_add];exact c3 j v hv⟩⟩
 ·have hc:cells=[]:=Qxu (by omega);subst hc;exact ⟨none,0,[],rfl,by unfold RPs;rfl,by simp,by simp,.inl ⟨rfl,rfl⟩⟩
theorem QeV.nil {sz:Nat} {x:AV} (hx:Gv x (.p (.v (.slice none 0 0)))):QeV st sz x 0 []:=by
 intro E kp φ Pub w u I h;have:=hx.v h;subst this;exact ⟨none,0,[],rfl,by unfold RPs;rfl,by simp,by simp,.inl ⟨rfl,rfl⟩⟩
theorem Qpm {T e:TypeId} {x y:Operand} {sz bytes r m0 m pub:Nat} {cells news:List PV} {z:List Value} (r':Nat) (hx:Gv (st.ev x) (.osl r m0)) (hl:st.ob r=.row cells e sz pub) (hn:m0 * sz=cells.length)
  (hs:QeV st sz (st.ev y) m news) (hT:Qbh P T=some (e,sz,bytes,z)) (hsz:0 < sz) (hb:(m0+m) * bytes<=140737488355328) (hm:m0+m<=140737488355328) (hf:st.free kp r'=true) (hd:Qxo d n=true) :
  Qd P E kp n ops ⟨some d,.call { callee:=.builtin .append,args:=#[x,y],argTypes:=#[T,T] },ty,ps,af,none⟩ st ⟨(d,.osl r' (m0+m))::st.slots,(r',.row (cells++news) e sz pub)::(r,.dead)::st.heap⟩:=by
 refine Qd.val rfl fun a w ⟨φ,Pub,I,h0,hnn,hsl⟩=>?_;obtain ⟨f1,f2,f3,f4⟩:=Qu hf;obtain ⟨i,v,t1,t2,t3,t4,t5,t6,t7⟩:=XG hT;obtain ⟨ad,c,vs,e1,c1,c2⟩:=hs E kp φ Pub w _ I (Za (h:=st.heap) hsl y);obtain ⟨v',w',g,hr,I',hR,H⟩:=I.append (P:=P) hl (hx _ _ _ _ (Za (h:=st.heap) hsl x)) hn f1 f2 f4 T ty i v bytes t1 t2 t3 t4 t5 t6 hsz ad m c vs c1 c2 (by unfold maxLen;omega) hb;refine ⟨v',w',?_,Sat.put I' h0 hnn (fun s=>Z6 H (Wf f3) (hsl s)) hd hR⟩;simp only [execOp,resolve,invoke,builtin,Sem.run_bind,Sem.run_pure,Result.andThen_ok,QxA,Qxs,Qxw,e1,hr]
theorem Qc0 {φ:Qi} {Pub:Nat->Nat->Prop} {w:World} {a:Act} (I:Inv E kp φ Pub st.heap w) (h0:a.defers=[]) (hn:a.tmps.size=n) (hsl:∀ s,RA w Pub φ (look .any st.slots s) (a.tmps.getD s undef)) {r sz m c:Nat} {cur:Array Value} {e:TypeId} {cells:List PV}
  (hf:st.free kp r=true) (hd:Qxo d n=true) (hsz:cur.size=c * sz) (hle:cells.length<=cur.size) (hR:RPs w Pub cells (cur.toList.take cells.length)) (h1:∀ u∈cur.toList.take cells.length,u.oneCell'=true) (hc:c<=maxLen) (hm:m<=c) :
  Sat E kp n ⟨(d,.osl r m)::st.slots,(r,.row cells e sz 0)::st.heap⟩ (a.put (some d) (.slice (some ⟨w.heap.size,0,none⟩) m c)) (w.alloc (.cells cur e)):=by
 obtain ⟨f1,f2,f3,f4⟩:=Qu hf;have I':=I.alloc f1 f2 f4 (.cells cur e) c (ob:=.row cells e sz 0) (.inr ⟨w.heap.size,c,cur,(0,0),if_pos rfl,⟨heap_alloc_new w _,.inl rfl⟩,hc,hsz,hle,WE (ZI I _) _ _ hR,h1,fun i hp=>by have:=I.publ _ _ hp;omega⟩);exact Sat.put I' h0 hn (fun s=>Qad I (Wf f3) c (hsl s)) hd (by unfold RA;exact .inl ⟨_,_,if_pos rfl,rfl,hm⟩)
def WT (z:List Value):Nat->List PV
 | 0=>[]
 | k+1=>z.map .v++WT z k
theorem Yj (z:List Value):∀ k,(WT z k).length=k * z.length
 | 0=>by simp [WT]
 | k+1=>by simp [WT,Yj z k,QxC];omega
theorem Qc1 (v:Value):∀ k,WT [v] k=List.replicate k (.v v)
 | 0=>rfl
 | k+1=>by simp [WT,Qc1 v k,List.replicate_succ]
theorem Qhm {w:World} {Pub:Nat->Nat->Prop}:∀ (vs:List Value),RPs w Pub (vs.map .v) vs
 | []=>by simp only [Qxw];unfold RPs;rfl
 | v::vs=>by rw [Qxs];unfold RPs;exact ⟨v,vs,rfl,by unfold RP;rfl,Qhm vs⟩
def Wj (z:List Value):Nat->List Value
 | 0=>[]
 | k+1=>z++Wj z k
theorem Qc2 {w:World} {Pub:Nat->Nat->Prop} (z:List Value):∀ k,RPs w Pub (WT z k) (Wj z k)
 | 0=>by unfold WT Wj RPs;rfl
 | k+1=>Z5 (Qhm z) (Qc2 z k)
theorem W7 (z:List Value):∀ k,(Wj z k).length=k * z.length
 | 0=>by simp [Wj]
 | k+1=>by simp [Wj,W7 z k,QxC];omega
theorem Qc3 (z:List Value) (hz:0 < z.length):∀ k i,i < k * z.length->(Wj z k)[i]? = z[i % z.length]?
 | 0,i,h=>by simp at h
 | k+1,i,h=>by
  simp only [Wj];by_cases hi:i < z.length
  ·rw [List.getElem?_append_left hi,Nat.mod_eq_of_lt hi]
  ·rw [List.getElem?_append_right (by omega),Qc3 z hz k _ (by rw [QxC] at h;omega),show i % z.length=(i - z.length) % z.length from Nat.mod_eq_sub_mod (by omega)]
theorem Vb (z:Array Value) (hz:0 < z.size) (k:Nat):(madeCells z (k * z.size)).toList=Wj z.toList k:=by
 apply List.ext_getElem?;intro i;have hzl:0 < z.toList.length:=by simpa using hz
 by_cases hi:i < k * z.size
 ·rw [Qc3 z.toList hzl k i (by simpa using hi)];have hlt:i % z.size < z.size:=Nat.mod_lt _ hz;simp [madeCells,hi,Array.getElem?_eq_getElem hlt,hlt]
 ·rw [QxG (by simp [madeCells];omega),QxG (by rw [W7];simp;omega)]
theorem Vc {z:List Value} (h1:z.all (·.oneCell')=true):∀ k,∀ u∈Wj z k,u.oneCell'=true
 | 0,u,hu=>by simp [Wj] at hu
 | k+1,u,hu=>by
  simp only [Wj,List.mem_append] at hu;rcases hu with hu | hu
  ·rw [List.all_eq_true] at h1;exact h1 u hu
  ·exact Vc h1 k u hu
theorem QbT (z:List Value):∀ (a b:Nat),a<=b->(Wj z b).take (a * z.length)=Wj z a
 | 0,b,h=>by simp [Wj]
 | a+1,0,h=>by omega
 | a+1,b+1,h=>by
  simp only [Wj];rw [QxC,Nat.add_comm,List.take_append,Qxr (by omega),show z.length+a * z.length - z.length=a * z.length from by omega,QbT z a b (by omega)]
theorem QvS {T e:TypeId} {x y:Operand} {sz bytes l c:Nat} {k1 k2:IntKind} {z:List Value} (r:Nat) (hx:Gv (st.ev x) (.p (.v (.int k1 (l:Int))))) (hy:Gv (st.ev y) (.p (.v (.int k2 (c:Int))))) (hT:Qbh P T=some (e,sz,bytes,z)) (hsz:0 < sz) (h1:z.all (·.oneCell')=true)
  (hlc:l<=c) (hb:bytes * c<=281474976710656) (hm:c<=281474976710656) (hf:st.free kp r=true) (hd:Qxo d n=true) :
  Qd P E kp n ops ⟨some d,.makeSlice T x y,ty,ps,af,none⟩ st ⟨(d,.osl r l)::st.slots,(r,.row (WT z l) e sz 0)::st.heap⟩:=by
 refine Qd.val rfl fun a w ⟨φ,Pub,I,h0,hn,hsl⟩=>?_;obtain ⟨i,v,t1,t2,t3,t4,t5,t6,t7⟩:=XG hT;have e1:=hx.v (Za (h:=st.heap) hsl x);have e2:=hy.v (Za (h:=st.heap) hsl y);have hr:=run_make (P:=P) w T e i v t1 t2 t3 k1 k2 (l:Int) (c:Int) (by omega) (by omega) (by rw [t5,<- Int.natCast_mul];omega) (by omega);rw [Int.toNat_natCast,Int.toNat_natCast,t4] at hr;have hzl:z.length=sz:=by rw [<- t7,Qxq,t6]
 have hcur:(madeCells v.cells (c * sz)).toList=Wj z c:=by
  rw [<- t6,Vb v.cells (by omega) c,t7]
 have htk:(madeCells v.cells (c * sz)).toList.take (WT z l).length=Wj z l:=by
  rw [hcur,Yj];exact QbT z l c hlc
 refine ⟨_,_,?_,Qc0 (st:=st) I h0 hn hsl (r:=r) (sz:=sz) (m:=l) (c:=c) (cur:=madeCells v.cells (c * sz)) (e:=e) (cells:=WT z l) hf hd (by simp [madeCells]) ?_ (by rw [htk];exact Qc2 z l) (by rw [htk];exact Vc h1 l) (by unfold maxLen;omega) hlc⟩
 ·simp only [execOp,e1,e2];rw [Sem.run_bind,hr];rfl
 ·rw [Yj,hzl];simp [madeCells];exact Nat.mul_le_mul_right _ hlc
theorem Qc4 (z:Array Value) (hz:0 < z.size) (k:Nat):((Array.range (k * z.size)).map (z[· % z.size]!)).toList=Wj z.toList k:=by
 rw [<- Vb z hz k];rfl
theorem QfV {T e:TypeId} {parts:List (Nat×Operand)} {sz bytes len:Nat} {z:List Value} {out:List AV} {qs:List PV} (r:Nat) (hpos:0 < len) (hT:Qbh P T=some (e,sz,bytes,z)) (hsz:0 < sz) (h1:z.all (·.oneCell')=true) (hlen:Nat.ble (len * sz) 1000000=true)
  (hf:Y8 ((List.range len).map fun i=>(i * sz,sz)) (Qcg (Wj z len)) (parts.map fun p=>(p.1,st.ev p.2))=some out) (hone:WZ out=true) (hq:AV.toPs out=some qs) (hql:qs.length=len * sz) (hfr:st.free kp r=true) (hd:Qxo d n=true) :
  Qd P E kp n ops ⟨some d,.buildSlice T len parts.toArray,ty,ps,af,none⟩ st ⟨(d,.osl r len)::st.slots,(r,.row qs e sz 0)::st.heap⟩:=by
 refine Qd.val rfl fun a w ⟨φ,Pub,I,h0,hn,hsl⟩=>?_;have hlen:=Nat.le_of_ble_eq_true hlen;obtain ⟨i,v,t1,t2,t3,t4,t5,t6,t7⟩:=XG hT;have hzv:(zeroValue e).run P w=.ok v w:=by simp [zeroValue,typeInfo,t2,t3]
 have hso:(sizeOf e).run P w=.ok sz w:=Qp (by unfold Zh;rw [t2];simp [t4]) w;have hR:∀ y,RA w Pub φ (st.ev y) (a.eval y):=Za hsl;have hvz:v.cells.size=sz:=t6
 obtain ⟨cur',k1,k2⟩:=QcZ (w:=w) (Pub:=Pub) (φ:=φ) (place:=fun i=>some (i * sz,sz)) (a:=a) (fun i os hos=>by
   rw [Qxx] at hos
   cases hr:(List.range len)[i]? with
   | none=>rw [hr] at hos;cases hos
   | some j =>
    rw [hr] at hos;have:j=i:=by rw [List.getElem?_eq_some_iff] at hr;obtain ⟨_,h⟩:=hr;simpa using h.symm
    subst this;simpa using hos) (us:=parts.map fun p=>(p.1,a.eval p.2)) (cur:=(Array.range (len * sz)).map (v.cells[· % v.cells.size]!)) hf (by
   have:=Qc4 v.cells (by omega) len;rw [t6,t7] at this;rw [t6,this]
   exact XE _) (by simp) (fun j i x hj=>by
   rw [Qxx] at hj ⊢
   cases hq:parts[j]? with
   | none=>rw [hq] at hj;cases hj
   | some p =>
    rw [hq] at hj;simp only [Qxp,Qxz.injEq,Prod.mk.injEq] at hj;obtain ⟨rfl,rfl⟩:=hj
    exact ⟨a.eval p.2,rfl,hR p.2⟩)
 have k3:=QfQ hq k2;have hcl:=Wi k3;rw [Qxq] at hcl;refine ⟨.slice (some ⟨w.heap.size,0,none⟩) len len,w.alloc (.cells cur' e),?_,Qc0 (st:=st) I h0 hn hsl hfr hd (by rw [hcl,hql]) (by omega) ?_ ?_ (by unfold maxLen;have:len<=len * sz:=Nat.le_mul_of_pos_right _ hsz;omega) (Qxv _)⟩
 ·have hz:¬ (len * sz > 2 ^ 24):=by omega
  have e2:(parts.toArray.map fun (p:Nat×Operand)=>(p.1,a.eval p.2)).toList=parts.map fun p=>(p.1,a.eval p.2):=by simp
  simp only [execOp];rw [Sem.run_bind];unfold Instr.buildSlice;simp only [Sem.run_bind,run_underlying t1,Result.andThen_ok,hso,if_neg hz];have h00:¬ len * sz=0:=by have:=Nat.mul_pos hpos hsz;omega
  simp only [if_neg h00,Sem.run_bind,hzv,Result.andThen_ok,Sem.run_pure];rw [e2,k1];simp [newRow,newObj,Sem.run]
 ·rw [Qxr (by rw [Qxq];omega)];exact k3
 ·rw [Qxr (by rw [Qxq];omega)];exact VE hone k2
theorem Gv.nilSl:Gv (.p (.v (.slice none 0 0))) (.p (.sl [] 0)):=fun w Pub φ u h=>by
 unfold RA RP at h ⊢;exact ⟨none,0,h,Qxv _,by unfold maxLen;omega,fun _=>rfl,.inl rfl⟩
def Vs:List AV->List AV->Prop
 | [],ys=>ys=[]
 | x::xs,ys=>∃ y zs,ys=y::zs/\Gv x y/\Vs xs zs
theorem Vs.nil:Vs [] []:=rfl
theorem Vs.cons {x y:AV} {xs ys:List AV} (h:Gv x y) (k:Vs xs ys):Vs (x::xs) (y::ys):=⟨y,ys,rfl,h,k⟩
theorem Vs.R {w:World} {Pub:Nat->Nat->Prop} {φ:Qi}:∀ {xs ys:List AV} {us:List Value},Vs xs ys->RAs w Pub φ xs us->RAs w Pub φ ys us
 | [],ys,us,h,k=>by unfold Vs at h;subst h;exact k
 | x::xs,ys,us,h,k=>by
  obtain ⟨y,zs,rfl,h1,h2⟩:=h;unfold RAs at k ⊢;obtain ⟨u,us',e,k1,k2⟩:=k;exact ⟨u,us',e,h1 _ _ _ _ k1,Vs.R h2 k2⟩
theorem Qnp {T e:TypeId} {s:Nat} (hT:X8 P T=some (e,s)) (a:Option Addr) (m c:Nat) (x y:Operand) (w:World):Sem.run P (do eqGuard .eql T x y (.slice a m c) (.slice none 0 0);binOp .eql T (.slice a m c) (.slice none 0 0)) w=.ok (.bool a.isNone) w:=by
 have h:∀ d,(Op.equalIn (d+1) T (.slice a m c) (.slice none 0 0)).run P w=.ok a.isNone w:=fun d=>by
  cases a <;> simp [Op.equalIn,run_underlying (Zv hT).1]
 simp [eqGuard,binOp,Op.equal,Op.maxDepth,h 9999]
theorem AO.eqNil {Q:Exit->Act->World->Prop} {T T' e:TypeId} {s m:Nat} {x y:Operand} {cells:List PV} {rest:List Oper} (hx:Gv (st.ev x) (.p (.sl cells m))) (hy:Gv (st.ev y) (.p (.v (.slice none 0 0)))) (hT:X8 P T=some (e,s)) (hd:Qxo d n=true)
  (h:∀ g:Bool,(g=true->m=0)->AO P E kp n ops Q rest (st.put d (.p (VF g)))):AO P E kp n ops Q (⟨some d,.binOp .eql T x y T',ty,ps,af,none⟩::rest) st:=by
 rintro a w ⟨φ,Pub,I,h0,hn,hsl⟩;have k:=hx _ _ _ _ (Za (h:=st.heap) hsl x);unfold RA RP at k;obtain ⟨ad,c,e1,k1,k2,k3,k4⟩:=k;have e2:=hy.v (Za (h:=st.heap) hsl y);refine wpList_plain rfl fun K hK=>?_;unfold Oper.wp
 have hr:(execOp a.eval ⟨some d,.binOp .eql T x y T',ty,ps,af,none⟩).run P w=.ok (.value (.bool ad.isNone)) w:=by
  simp only [execOp,e1,e2];rw [Sem.run_bind,Qnp hT];rfl
 rw [hr];refine hK _ _ (h ad.isNone (fun hg=>?_) _ _ (Sat.put I h0 hn hsl hd (by simp [RA,RP])));have:=k3 (Option.isNone_iff_eq_none.1 hg);omega
theorem QeJ {T e:TypeId} {sz bytes:Nat} {z:List Value} (r:Nat) (hT:Qbh P T=some (e,sz,bytes,z)) (hfr:st.free kp r=true) (hd:Qxo d n=true) :
  Qd P E kp n ops ⟨some d,.buildSlice T 0 #[],ty,ps,af,none⟩ st ⟨(d,.osl r 0)::st.slots,(r,.row [] e sz 0)::st.heap⟩:=by
 refine Qd.val rfl fun a w ⟨φ,Pub,I,h0,hn,hsl⟩=>?_;obtain ⟨i,v,t1,t2,t3,t4,t5,t6,t7⟩:=XG hT;have hso:(sizeOf e).run P w=.ok sz w:=Qp (by unfold Zh;rw [t2];simp [t4]) w;refine ⟨.slice (some ⟨w.heap.size,0,none⟩) 0 0,w.alloc (.cells #[] e),?_,Qc0 (st:=st) (sz:=sz) I h0 hn hsl hfr hd (by simp) (by simp) (by simp [RPs]) (by simp) (by unfold maxLen;omega) (Qxv _)⟩;simp only [execOp];rw [Sem.run_bind];unfold Instr.buildSlice;simp [Sem.run_bind,run_underlying t1,Result.andThen_ok,hso,Instr.fill,newRow,newObj,Sem.run];congr 2;apply Array.ext <;> simp
def QfW (i:Int):UInt8:=UInt8.ofNat (i % 256).toNat
theorem Qc5 (i:Int):((QfW i).toNat:Int)=i % 256:=by
 unfold QfW;rw [UInt8.toNat_ofNat'];have h1:=Int.emod_nonneg i (show (256:Int)≠0 by decide);have h2:=Int.emod_lt_of_pos i (show (0:Int) < 256 by decide);omega
theorem u8w (i:Int):IntKind.u8.wrap i=((QfW i).toNat:Int):=by rw [IntKind.wrap_u8,Qc5]
theorem u8i (c:UInt8):IntKind.i64.wrap (c.toNat:Int)=(c.toNat:Int):=by
 have:=c.toNat_lt;exact IntWalk.i64_in _ (by omega)
theorem Qcq (c:UInt8):QfW (c.toNat:Int)=c:=by
 apply UInt8.toNat_inj.1;have:=Qc5 (c.toNat:Int);have:=c.toNat_lt;omega
theorem Ret.eq {fn:Func} {hout:List (Nat×OB)} {res res':AV} {e:Exit} (k:To E kp n (bodyPost P fn (QfS E kp hout res')) e st) (h:res'=res):To E kp n (bodyPost P fn (QfS E kp hout res)) e st:=h ▸ k
theorem w64 {x:Int} (h0 : -9223372036854775808<=x) (h1:x<=9223372036854775807):IntKind.i64.wrap x=x:=IntWalk.i64_in x ⟨h0,h1⟩
theorem Gv.int {k:IntKind} {i j:Int} (h:i=j):Gv (.p (.v (.int k i))) (.p (.v (.int k j))):=by rw [h];exact Gv.r
end
end
section
open Go.RowKit
theorem Qc6 {P:Program} {f:FuncId} {args:Array Value} {w:World} {n:Nat} {v:Value}
  (h:Calls P f args (w.drewN n) fun e w'=>e=.returned v/\w.drewN n=w'):Calls P f args (w.drewN n) fun e w''=>e=.returned v/\∃ m,w''=w.drewN m :=
 h.mono fun _ _ ⟨he,hm⟩=>⟨he,n,hm.symm⟩
theorem Qc7 {W w1:World} (hb:Below W.heap.size W w1):(∀ b o,b < W.heap.size->w1.cell? ⟨b,o,none⟩=W.cell? ⟨b,o,none⟩)/\(∀ b o,b < W.heap.size->w1.frozen? ⟨b,o,none⟩=W.frozen? ⟨b,o,none⟩) :=
 ⟨fun b o h=>hb.cell (p:=⟨b,o,none⟩) h,fun b o h=>hb.frozen (p:=⟨b,o,none⟩) h⟩
theorem Vd {k:IntKind} {a b:Int} (h:a=b):Ending.returned (.int k a)=.returned (.int k b):=by rw [h]
theorem VH {a b:Bool} (h:a=b):Ending.returned (.bool a)=.returned (.bool b):=by rw [h]
theorem QbU {B:Nat} {a w:World} (h:Below B a w) (n:Nat):Below B a (w.drewN n):=⟨h.os,h.tape,h.output,h.size,h.block⟩
section
variable {P:Program} {md:Region.Mode} {ops:Array Oper} {Q:Exit->Act->World->Prop} {S:World->Prop}
theorem Zb {i:Nat} {oi:Oper} {fuel:Nat} {listed:Array Bool} {a:Act} {w:World} (hi:ops[i]? = some oi)
  (hs:Region.noSelect ops=true) (hf:Region.free md ops listed i=true) (hr:(Region.ready md ops listed).contains i=true)
  (hQ:∀ v c a w,Q (.panic c) (a.put oi.dst v) w->Q (.panic c) a w) (hS:S w) (hw:Region.wanted oi (yielded ops a.tmps)=true)
  (h:∃ v,(∀ w,S w->(execOp a.eval oi).run P w=.ok (.value v) w)/\wpAnyH P md ops Q S fuel (listed.setIfInBounds i true) (a.put oi.dst v) w):wpAnyH P md ops Q S (fuel+1) listed a w :=
 let ⟨v,h1,h2⟩:=h
 wpAnyH_take (v:=v) hi hs hf hr (hQ v) (.inl ⟨hw,h1⟩) hS h2
theorem Qaj {i:Nat} {o:Oper} {fuel:Nat} {listed:Array Bool} {a:Act} {w:World} (hr:Region.ready md ops listed=[i]) (hi:ops[i]? = some o)
  (h:∀ K':Act->World->Prop,Shut (∀ a w,S w->(S w->wpAnyH P md ops Q S fuel (listed.setIfInBounds i true) a w)->K' a w)->if Region.wanted o (yielded ops a.tmps)=true then Oper.wp P o a w K' Q else K' (a.put o.dst undef) w) :
  wpAnyH P md ops Q S (fuel+1) listed a w :=
 wpAnyH_ready hr (by simp) (AllReadyH.cons hi h AllReadyH.nil)
end
theorem Qc8 {w0 w2:World} (h:Below w0.heap.size w0 w2) {p:Addr} {v:Value} (hc:w0.cell? p=some v):w2.cell? p=some v:=by
 rw [h.cell (World.block_lt_of_cell? w0 p hc)];exact hc
theorem Qj0 {w0 w2:World} (h:Below w0.heap.size w0 w2) {p:Addr} {b:Bool} (hl:p.block < w0.heap.size) (hc:w0.frozen? p=b):w2.frozen? p=b:=by
 rw [h.frozen hl];exact hc
theorem Zk {w0 w1 w2:World} (h:Below w0.heap.size w0 w1) (k:Below w1.heap.size w1 w2):Below w0.heap.size w0 w2:=h.trans (k.mono h.size)
theorem Qcj {P:Program} (C:World->Prop) {id:Nat} {Q:Exit->Act->World->Prop} {a:Act} {w:World} {l:List Oper} (hm:P.follows .mixedOrders=true) (hB:Region.lexB .any l.toArray=true)
  (hC:C w.drew) (h:wpQuiet P l.toArray C (fun a'=>∀ w',C w'->Q .normal a' w') l a):(Code.region id l.toArray true).wp P Q a w :=
 wp_region_quiet (C:=C) hm hB hC (by simpa using h)
theorem Qj1 {P:Program} {f:FuncId} {args:Array Value} {w0 w:World} {v:Value} (h0:Below w0.heap.size w0 w)
  (h:Calls P f args w fun e w'=>e=.returned v/\Below w.heap.size w w'):Calls P f args w fun e w''=>e=.returned v/\Below w0.heap.size w0 w'' :=
 h.mono fun _ _ ⟨he,hm⟩=>⟨he,Zk h0 hm⟩
theorem Qak {w w1:World} (h:Below w.drew.heap.size w.drew w1):Below w.heap.size w w1:=⟨h.os,h.tape,h.output,h.size,h.block⟩
theorem Qj2 {RB:Nat} {w0 w':World} (h:Below RB w0 w'):Below RB w0 w' /\ ∀ b o,b < RB->w'.cell? ⟨b,o,none⟩=w0.cell? ⟨b,o,none⟩ :=
 ⟨h,fun b o hb=>h.cell (p:=⟨b,o,none⟩) hb⟩
theorem Qbi {RB:Nat} {w0 w1 w2:World} (hRB:RB<=w0.heap.size) (h:Below RB w0 w1) (k:Below w1.heap.size w1 w2):Below RB w0 w2:=h.trans (k.mono (Nat.le_trans hRB h.size))
theorem Qvq {w0 w':World} (h:Below w0.heap.size w0 w'):Below w0.heap.size w0 w' /\ ∀ b o,b < w0.heap.size->w'.cell? ⟨b,o,none⟩=w0.cell? ⟨b,o,none⟩:=⟨h,(Qc7 h).1⟩
theorem Qj3 {w0 w':World} (h:Below w0.heap.size w0 w'):Below w0.heap.size w0 w'.drew /\ ∀ b o,b < w0.heap.size->w'.drew.cell? ⟨b,o,none⟩=w0.cell? ⟨b,o,none⟩:=Qvq h.drew
def Qvr (B:Nat) (w:World) (v:Value) (cs:List Value):Prop :=
 ∃ b,v=.pointer (some ⟨b,0,none⟩)/\B<=b/\b < w.heap.size/\(∀ i u,cs[i]? = some u->w.cell? ⟨b,i,none⟩=some u) /\ ∀ o,w.frozen? ⟨b,o,none⟩=false
theorem Qvr.below {B:Nat} {w w':World} {v:Value} {cs:List Value} (h:Qvr B w v cs) (k:Below w.heap.size w w'):Qvr B w' v cs :=
 let ⟨b,h1,h2,h3,h4,h5⟩:=h
 ⟨b,h1,h2,Nat.lt_of_lt_of_le h3 k.size,fun i u hu=>by rw [k.cell (p:=⟨b,i,none⟩) h3];exact h4 i u hu,fun o=>by rw [k.frozen (p:=⟨b,o,none⟩) h3];exact h5 o⟩
theorem VI (w:World) (o:Obj):Below w.heap.size w (w.alloc o):=(Below.refl _ _).alloc (Qxv _) _
theorem QE {w:World} {c:Array Value} {t:TypeId} {n:Nat} (hn:n=w.heap.size) (i:Nat) {v:Value} (h:c[i]? = some v):(w.alloc (.cells c t)).cell? ⟨n,i,none⟩=some v:=by
 subst hn;rw [World.cell?_alloc_new];exact h
theorem Wg {w:World} {o:Obj} {p:Addr} {v:Value} (h:w.cell? p=some v):(w.alloc o).cell? p=some v:=Qc8 (VI w o) h
theorem W0 {w:World} {c:Array Value} {t:TypeId} {n:Nat} (hn:n=w.heap.size) (i:Nat):(w.alloc (.cells c t)).frozen? ⟨n,i,none⟩=false:=by
 subst hn;simp
theorem Y9 {w:World} {o:Obj} {p:Addr} {b:Bool} (hl:p.block < w.heap.size) (h:w.frozen? p=b):(w.alloc o).frozen? p=b:=Qj0 (VI w o) hl h
end
end Go.Proofs.YtcebndkiagbddaaGreatDoor
