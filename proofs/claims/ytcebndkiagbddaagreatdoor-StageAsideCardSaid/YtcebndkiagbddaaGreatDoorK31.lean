/- A part of the proof: contracts of functions and what they stand on. Written shorter and merged by a program (pack.py). -/
import Derived.Test.YtcebndkiagbddaaGreatDoorK29
import Derived.Test.YtcebndkiagbddaaGreatDoorK28
set_option linter.unusedVariables false
set_option linter.unusedSimpArgs false
set_option maxRecDepth 100000
set_option maxHeartbeats 4000000
open List renaming getD_eq_getElem?_getD → Qy3, length_take → Qy4, length_map → Qy5, getElem?_eq_none → Qy6, length_append → Qy7, length_drop → Qy8
namespace Go.Proofs.YtcebndkiagbddaaGreatDoor
section
open Go.RowKit
abbrev kK (ps:List PeerS):List EV:=[Qg (ps.getD 0 Qa).ns,Qg (ps.getD 1 Qa).ns,Qg (ps.getD 2 Qa).ns,Qg (ps.getD 3 Qa).ns,Qg (ps.getD 4 Qa).ns,Qg (ps.getD 5 Qa).ns]
theorem Qxv {ps:List PeerS} {i:Nat} (h:i < 6):(kK ps).getD i .any=Qg (ps.getD i Qa).ns:=by
 have:i=0∨i=1∨i=2∨i=3∨i=4∨i=5:=by omega
 rcases this with rfl | rfl | rfl | rfl | rfl | rfl <;> rfl
theorem QtI {ps:List PeerS} {n:Nat} (hn:n≤6):∀ i,i < n → ∀ j,j < 5→QvS (kK ps) (QbG (ps.getD i Qa) i j):=fun i hi j hj=>by
 have:j=0∨j=1∨j=2∨j=3∨j=4:=by omega
 rcases this with rfl | rfl | rfl | rfl | rfl
 ·rfl
 ·rfl
 ·rfl
 ·rfl
 ·exact ⟨show i < 6 by omega,by rw [Qxv (by omega)];rfl⟩
theorem Qxw {ps:List PeerS} {n:Nat} (hn:n≤6):∀ i,i < n → ∀ j,j < 5→raC (kK ps) (QbG (ps.getD i Qa) i j)=Qk (ps.getD i Qa) j:=fun i hi j hj=>by
 have:j=0∨j=1∨j=2∨j=3∨j=4:=by omega
 rcases this with rfl | rfl | rfl | rfl | rfl
 ·rfl
 ·rfl
 ·rfl
 ·rfl
 ·exact Qxv (by omega)
theorem QtJ {c:ConfS} {at_:List UInt8} {i:Nat} (hl:c.ps.length≤6) (hk:Qv c.ps at_=(i:Int)):Cf Tryz.prog 82 [] [Qp c,.s at_] [] (.tup [.i (i:Int),.i 0]):=by
 have k:=QcQ (c:=c) (k:=at_) (by omega);rw [hk,if_neg (by omega),if_neg (by omega)] at k;exact k
theorem Zg {c:ConfS} {at_:List UInt8} {i:Nat} (hl:c.ps.length≤6) (ha:at_≠[]) (hi:i < c.ps.length) (hk:Qv c.ps at_=(i:Int)):Cf Tryz.prog 113 [(0,bK c 1 c.ps.length),(1,rK c.ps.length (c.ps) nmK),(7000,dK (c.ps) 0),(7001,dK (c.ps) 1),(7002,dK (c.ps) 2),(7003,dK (c.ps) 3),(7004,dK (c.ps) 4),(7005,dK (c.ps) 5)] [.own 0 0,.s at_] [(0,bK c 1 c.ps.length),(1,rK c.ps.length (c.ps) nmK),(7000,dK (c.ps) 0),(7001,dK (c.ps) 1),(7002,dK (c.ps) 2),(7003,dK (c.ps) 3),(7004,dK (c.ps) 4),(7005,dK (c.ps) 5)] (.tup [.po 1 5 i 0,.i 0]):=by
 refine Qs {bo:=[13]} Tryz.func113 Tryz.ntmps113 ?_;refine clX (QtJ (c:=c) hl hk) ?_
 repeat (refine Ob.mk ?_ ?_;focus (first | (exact QtI hl) | (exact Qxw hl) | (exact Eq.refl _) | (exact fun hg=>X6 hg) | (exact fun hg=>hg)))
 refine ⟨fun h1=>?_,fun h1=>?_⟩
 ·skip
  (simp only [Int.reduceToNat,UInt8.reduceOfNat] at h1)
  have c1:=h1
  (simp only [bsX] at c1)
  exact absurd c1 (by simp [ha])
 ·skip
  (simp only [Int.reduceToNat,UInt8.reduceOfNat] at h1)
  have c1:=h1
  (simp only [bsX] at c1)
  repeat refine o2 ?_
  trivial
def ZJ (n:List Bool) (p:PeerS):PeerS:=⟨p.k,p.s,p.e,p.a,QI p.ns n⟩
def psD (ps:List PeerS) (n:List Bool) (i:Nat):List PeerS:=(ps.take i).map (ZJ n)++ps.drop i
theorem Ws {ps:List PeerS} {n:List Bool} {i:Nat}:(psD ps n i).length=ps.length:=by
 unfold psD;rw [Qy7,Qy5,Qy4,Qy8];omega
theorem QbY {ps:List PeerS} {n:List Bool} {i:Nat} (a:Nat):(psD ps n i).getD a Qa=if a < i then ZJ n (ps.getD a Qa) else ps.getD a Qa:=by
 unfold psD;rw [Qy3];by_cases h:a < i
 ·rw [if_pos h,Qy3];by_cases h2:a < ps.length
  ·rw [List.getElem?_append_left (by rw [Qy5,Qy4];omega),List.getElem?_map,List.getElem?_take_of_lt h,List.getElem?_eq_getElem h2];rfl
  ·rw [Qy6 (by rw [Qy7,Qy5,Qy4,Qy8];omega),Qy6 (by omega)];rfl
 ·rw [if_neg h,Qy3];by_cases h2:a < ps.length
  ·rw [List.getElem?_append_right (by rw [Qy5,Qy4];omega),Qy5,Qy4,List.getElem?_drop,Nat.min_eq_left (by omega),show i+(a - i)=a from by omega]
  ·rw [Qy6 (by rw [Qy7,Qy5,Qy4,Qy8];omega),Qy6 (by omega)]
theorem Qnl {ps:List PeerS} {n:List Bool} {i a:Nat} (h:a≠i):(psD ps n i).getD a Qa=(psD ps n (i+1)).getD a Qa:=by
 rw [QbY,QbY];by_cases e:a < i
 ·rw [if_pos e,if_pos (by omega)]
 ·rw [if_neg e,if_neg (by omega)]
theorem Qnm {ps:List PeerS} {n:List Bool} {i:Nat}:(psD ps n (i+1)).getD i Qa=ZJ n ((psD ps n i).getD i Qa):=by
 rw [QbY,QbY,if_pos (by omega),if_neg (by omega)]
theorem QwB (ps:List PeerS) (n:List Bool) (i:Nat):(psD ps n i).map (·.k)=ps.map (·.k):=by
 unfold psD;rw [List.map_append,List.map_map,List.map_take,List.map_drop]
 conv=>rhs;rw [← List.take_append_drop i (ps.map (·.k))]
 congr 1
theorem Qbo (ps:List PeerS) (n:List Bool) (i:Nat) (k:List UInt8):Qv (psD ps n i) k=Qv ps k:=by unfold Qv;rw [QwB]
theorem QeO (ns:List (List Bool)) (n:List Bool):(QI ns n).length≤ns.length:=List.length_filter_le _ _
theorem Qlz {ns:List (List Bool)} {n x:List Bool} (h:x∈QI ns n):x∈ns:=(List.mem_filter.1 h).1
structure PsOk (ps:List PeerS):Prop where
 len:ps.length≤6
 nl:∀ a,(ps.getD a Qa).ns.length≤8
 nb:∀ a,∀ x∈(ps.getD a Qa).ns,x.length≤32
 ns:∀ a,Yi (ps.getD a Qa).ns
theorem PsOk.del {ps:List PeerS} (h:PsOk ps) (n:List Bool) (i:Nat):PsOk (psD ps n i):=by
 refine ⟨by rw [Ws];exact h.len,fun a=>?_,fun a x hx=>?_,fun a=>?_⟩
 ·rw [QbY];split
  ·exact Nat.le_trans (QeO _ _) (h.nl a)
  ·exact h.nl a
 ·rw [QbY] at hx;split at hx
  ·exact h.nb a x (Qlz hx)
  ·exact h.nb a x hx
 ·rw [QbY];split
  ·exact (h.ns a).filter _
  ·exact h.ns a
theorem K_or {ps:List PeerS} {i m:Nat}:∀ a,a < m → ∀ b,b < 5→(a=i∧b=4)∨noL i (QbG (ps.getD a Qa) a b):=fun a _ b hb=>by
 by_cases e:a=i
 ·have:b=0∨b=1∨b=2∨b=3∨b=4:=by omega
  rcases this with rfl | rfl | rfl | rfl | rfl
  ·exact .inr rfl
  ·exact .inr rfl
  ·exact .inr rfl
  ·exact .inr rfl
  ·exact .inl ⟨e,rfl⟩
 ·exact .inr (Qxu e b)
theorem st_K {ps qs:List PeerS} {L:List (List Bool)} {i m k:Nat} (h1:∀ a,a≠i→ps.getD a Qa=qs.getD a Qa) (h2:qs.getD i Qa=⟨(ps.getD i Qa).k,(ps.getD i Qa).s,(ps.getD i Qa).e,(ps.getD i Qa).a,L⟩) (hm:m=L.length) :
  ∀ a,a < k → ∀ b,b < 5→stZ (fun a b=>QbG (ps.getD a Qa) a b) i 4 [.osl i m] a b=QbG (qs.getD a Qa) a b:=fun a _ b hb=>by
 unfold stZ;by_cases e:a=i
 ·subst e;rw [h2];have:b=0∨b=1∨b=2∨b=3∨b=4:=by omega
  subst hm;have hbb:Nat.beq a a=true:=by simp
  rw [hbb];rcases this with rfl | rfl | rfl | rfl | rfl <;> rfl
 ·have:Nat.beq a i=false:=by
   cases q:Nat.beq a i with
   | false=>rfl
   | true=>exact absurd (Nat.eq_of_beq_eq_true q) e
  rw [this];show QbG (ps.getD a Qa) a b=_;rw [h1 a e]
def Qq (ps:List PeerS) (i:Nat) (n:List Bool):List PeerS :=
 (psD ps n ps.length).set i ⟨((psD ps n ps.length).getD i Qa).k,((psD ps n ps.length).getD i Qa).s,((psD ps n ps.length).getD i Qa).e,((psD ps n ps.length).getD i Qa).a,JS ((psD ps n ps.length).getD i Qa).ns (lbN ((psD ps n ps.length).getD i Qa).ns n) n⟩
theorem Qgm {ps:List PeerS} {i:Nat} {n:List Bool} (hi:i < ps.length):(Qq ps i n).getD i Qa=⟨((psD ps n ps.length).getD i Qa).k,((psD ps n ps.length).getD i Qa).s,((psD ps n ps.length).getD i Qa).e,((psD ps n ps.length).getD i Qa).a,JS ((psD ps n ps.length).getD i Qa).ns (lbN ((psD ps n ps.length).getD i Qa).ns n) n⟩:=by
 unfold Qq;rw [Qy3 (l:=(psD ps n ps.length).set i _),List.getElem?_set_self (by rw [Ws];exact hi)];rfl
theorem Qgn {ps:List PeerS} {i a:Nat} {n:List Bool} (h:a≠i):(psD ps n ps.length).getD a Qa=(Qq ps i n).getD a Qa:=by
 unfold Qq;rw [Qy3,Qy3 (l:=(psD ps n ps.length).set i _),List.getElem?_set_ne (Ne.symm h)]
def Zz (ps:List PeerS) (i:Nat) (n:List Bool):Prop:=((psD ps n ps.length).getD i Qa).ns.length=8
instance (ps:List PeerS) (i:Nat) (n:List Bool):Decidable (Zz ps i n):=by unfold Zz;exact inferInstance
def Qn (ps:List PeerS) (i:Nat) (n:List Bool):List PeerS:=if Zz ps i n then psD ps n ps.length else Qq ps i n
def WC (ps:List PeerS) (i:Nat) (n:List Bool):Int:=if Zz ps i n then 7 else 0
theorem X0 {ps:List PeerS} {i:Nat} {n:List Bool}:(Qn ps i n).length=ps.length:=by
 unfold Qn;split
 ·exact Ws
 ·unfold Qq;rw [List.length_set];exact Ws
theorem QbZ (ns:List (List Bool)) (n:List Bool):lbN ns n≤ns.length:=List.countP_le_length
theorem nsE {p q:PeerS} (h:p=q):∀ x,x < p.ns.length → ∀ y,y < 2→QL (p.ns.getD x []) y=QL (q.ns.getD x []) y:=fun _ _ _ _=>by rw [h]
theorem nsL {p q:PeerS} (h:p=q):p.ns.length=q.ns.length:=by rw [h]
end
end Go.Proofs.YtcebndkiagbddaaGreatDoor
