/- A part of the proof: contracts of functions and what they stand on. Written shorter and merged by a program (pack.py). -/
import Derived.Test.YtcebndkiagbddaaGreatDoorK23
set_option linter.unusedVariables false
set_option linter.unusedSimpArgs false
set_option maxRecDepth 100000
set_option maxHeartbeats 4000000
open List renaming getD_eq_getElem?_getD -> Qxo, getElem?_eq_getElem -> Qxp, take_succ_eq_append_getElem -> Qxq, drop_drop -> Qxr, idxOf_lt_length_of_mem -> Qxs, getElem?_append_right -> Qxt, getElem?_append_left -> Qxu, not_of_lt_findIdx -> QxA, getElem_idxOf -> Qxx, filter_append -> Qxy, length_cons -> Qxw
open Nat renaming le_refl -> Qxv, zero_le -> Qxz
namespace Go.Proofs.YtcebndkiagbddaaGreatDoor
section
open Go.RowKit
theorem Qek {p q:List Bool} (hp:p.length<=32):(decide (adr p=adr q) && decide ((p.length:Int)=(q.length:Int)))=decide (p=q):=by
 by_cases h:p=q
 ·subst h;simp
 ·rw [decide_eq_false h]
  cases e:(decide (adr p=adr q) && decide ((p.length:Int)=(q.length:Int))) with
  | false=>rfl
  | true =>
   rw [Bool.and_eq_true,decide_eq_true_eq,decide_eq_true_eq] at e;exact absurd (QgA (by omega) hp e.1) h
theorem Quz {p q:List Bool}:adr p=adr q↔QN p=QN q:=by rw [<- UInt32.toNat_inj,QW,QW]
theorem Qxn {p q:List Bool}:(decide ((adr p).toNat < (adr q).toNat) || decide (adr p=adr q) && decide ((p.length:Int) < (q.length:Int)))=ltB p q:=by
 unfold ltB;rw [QW,QW];have e:decide (adr p=adr q)=decide (QN p=QN q):=decide_eq_decide.2 Quz;have e2:decide ((p.length:Int) < (q.length:Int))=decide (p.length < q.length):=decide_eq_decide.2 Int.ofNat_lt;rw [e,e2]
theorem QwK {p q:List Bool} (h:ltB p q=true):QiY p q = -1:=if_pos h
theorem QwL {p q:List Bool} (h:ltB p q=false) (e:decide (p=q)=true):QiY p q=0:=by
 unfold QiY;rw [if_neg (by rw [h];decide),if_pos (of_decide_eq_true e)]
theorem QwM {p q:List Bool} (h:ltB p q=false) (e:decide (p=q)=false):QiY p q=1:=by
 unfold QiY;rw [if_neg (by rw [h];decide),if_neg (of_decide_eq_false e)]
theorem QbL {L M:List (List Bool)} {n:List Bool} {X:List EV} (hX:X=[.u32 (adr n),.i (n.length:Int)]) (hM:M=L++[n]):∀ a,a < L.length+1 -> ∀ j,j < 2->(bif Nat.blt a L.length then Qz (L.getD a []) j else X.getD ((a - L.length) * 2+j) .any)=Qz (M.getD a []) j:=by
 subst hX hM;refine Xp (f:=fun a j=>Qz (L.getD a []) j) (g:=fun a j=>Qz ((L++[n]).getD a []) j) (m:=[.u32 (adr n),.i (n.length:Int)]) (sz:=2) (fun b hb j _=>?_) (fun j hj=>?_)
 ·show Qz (L.getD b []) j=Qz ((L++[n]).getD b []) j;rw [Qxo,Qxo,Qxu hb]
 ·show _=Qz ((L++[n]).getD L.length []) j;rw [Qxo (l:=L++[n]),Qxt (Qxv _),Nat.sub_self];have:j=0\/j=1:=by omega
  rcases this with rfl | rfl <;> rfl
theorem Qk0 {L M:List PeerS} {p:PeerS} {X:List EV} (hX:X=[.s p.k,.s p.s,.s p.e,.i p.a,Wm p.ns]) (hM:M=L++[p]):∀ a,a < L.length+1 -> ∀ j,j < 5->(bif Nat.blt a L.length then Qe (L.getD a Qa) j else X.getD ((a - L.length) * 5+j) .any)=Qe (M.getD a Qa) j:=by
 subst hX hM;refine Xp (f:=fun a j=>Qe (L.getD a Qa) j) (g:=fun a j=>Qe ((L++[p]).getD a Qa) j) (m:=[.s p.k,.s p.s,.s p.e,.i p.a,Wm p.ns]) (sz:=5) (fun b hb j _=>?_) (fun j hj=>?_)
 ·show Qe (L.getD b Qa) j=Qe ((L++[p]).getD b Qa) j;rw [Qxo,Qxo,Qxu hb]
 ·show _=Qe ((L++[p]).getD L.length Qa) j;rw [Qxo (l:=L++[p]),Qxt (Qxv _),Nat.sub_self];have:j=0\/j=1\/j=2\/j=3\/j=4:=by omega
  rcases this with rfl | rfl | rfl | rfl | rfl <;> rfl
theorem eqN {L M:List (List Bool)} (h:L=M):∀ a,a < L.length -> ∀ b,b < 2->Qz (L.getD a []) b=Qz (M.getD a []) b:=fun _ _ _ _=>by rw [h]
theorem eqP {L M:List PeerS} (h:L=M):∀ a,a < L.length -> ∀ b,b < 5->Qe (L.getD a Qa) b=Qe (M.getD a Qa) b:=fun _ _ _ _=>by rw [h]
theorem Qrk {p q:List Bool} (hp:p.length<=32):Cf Tryz.prog 53 [] [We p,We q] [] (.i (QiY p q)):=by
 refine Qr {} Tryz.func53 Tryz.ntmps53 ?_
 repeat (refine Ob.mk ?_ ?_;focus (first | (exact fun hg=>Yz hg) | (exact fun hg=>hg) | (intro hg;((intro hq;exact QlE hg (ZQ hq))))))
 refine ⟨fun h1=>?_,fun h1=>?_⟩
 ·skip
  have c1:=h1
  (simp only [bsX] at c1)
  have hO:=QwK (Qxn.symm.trans h1)
  repeat refine o35 ?_
  trivial
 ·skip
  have c1:=h1
  (simp only [bsX] at c1)
  have hL:=Qxn.symm.trans h1;refine ⟨fun h2=>?_,fun h2=>?_⟩
  ·skip
   have c2:=h2
   (simp only [bsX] at c2)
   have hO:=QwL hL ((Qek hp).symm.trans h2)
   repeat refine o35 ?_
   trivial
  ·skip
   have c2:=h2
   (simp only [bsX] at c2)
   have hO:=QwM hL ((Qek hp).symm.trans h2)
   repeat refine o35 ?_
   trivial
def Vq (ns:List (List Bool)) (n:List Bool):Int:=if n∈ns then (ns.idxOf n:Int) else -1
theorem Qk1 {ns:List (List Bool)} {n:List Bool} {k:Nat} (hk:k < ns.length) (hb:∀ i,i < k->ns.getD i []≠n) (h:ns.getD k []=n):Vq ns n=(k:Int):=by
 have g:∀ i (hi:i < ns.length),ns.getD i []=ns[i]:=fun i hi=>by rw [Qxo,Qxp hi];rfl
 have hm:n∈ns:=by rw [<- h,g k hk];exact List.getElem_mem hk
 unfold Vq;rw [if_pos hm];have h1:=Qxs hm
 have h2:ns.idxOf n=k:=by
  rcases Nat.lt_trichotomy (ns.idxOf n) k with q | q | q
  ·exact absurd ((g _ h1).trans (Qxx h1)) (hb _ q)
  ·exact q
  ·have:=QxA (p:=(· == n)) (xs:=ns) (i:=k) q;rw [<- g k hk,h] at this;simp at this
 rw [h2]
theorem Qk2 {ns:List (List Bool)} {n:List Bool} (hb:∀ i,i < ns.length->ns.getD i []≠n):Vq ns n = -1:=by
 unfold Vq;rw [if_neg];intro h;obtain ⟨i,hi,e⟩:=List.mem_iff_getElem.1 h;refine hb i hi ?_;rw [Qxo,Qxp hi];exact e
theorem QuA {ns:List (List Bool)} {n:List Bool}:decide (0<=Vq ns n)=decide (n∈ns):=by
 unfold Vq;by_cases h:n∈ns
 ·rw [if_pos h];simp [h]
 ·rw [if_neg h];simp [h]
theorem Xr {ns:List (List Bool)} (hb:∀ x∈ns,x.length<=32) (i:Nat):(ns.getD i []).length<=32:=by
 rw [Qxo]
 cases h:ns[i]? with
 | none=>exact Qxz _
 | some x=>exact hb x (List.mem_of_getElem? h)
theorem Qoh {ns:List (List Bool)} {n:List Bool} (hl:ns.length<=1000) (hn:n.length<=32):Cf Tryz.prog 71 [(0,.rz ns.length 2 (fun i j=>Qz (ns.getD i []) j) 36 0)] [.osl 0 ns.length,We n] [(0,.rz ns.length 2 (fun i j=>Qz (ns.getD i []) j) 36 0)] (.i (Vq ns n)):=by
 refine QJ {} Tryz.func71 Tryz.ntmps71 ?_;refine ⟨Nat,fun k=>⟨[(0,.osl 0 ns.length),(3,.own 1003 0),(7,.i (ns.length:Int)),(8,.i (k:Int))],[(0,.rz ns.length 2 (fun i j=>Qz (ns.getD i []) j) 36 0),(1003,.box [.u32 (adr n),.i (n.length:Int)] 36)]⟩,fun k=>k<=ns.length /\ ∀ i,i < k->ns.getD i []≠n,fun k=>ns.length - k,0,⟨Qxz _,fun i hi=>absurd hi (Nat.not_lt_zero _)⟩,?_,fun k hx1=>?_⟩
 ·skip
  repeat refine o7 ?_
  trivial
 refine ⟨fun h1=>?_,fun h1=>?_⟩
 ·skip
  have c1:=h1
  (simp only [bsX] at c1)
  have hk:k < ns.length:=by omega
  refine ⟨[0,0,0,6,14,31],by kernel_rfl,?_⟩
  repeat refine o3 ?_
  refine ⟨fun h2=>?_,fun h2=>?_⟩
  ·skip
   have c2:=h2
   (simp only [bsX] at c2)
   have hO:=Qk1 hk hx1.2 (of_decide_eq_true ((Qek hn).symm.trans h2)).symm
   repeat refine o19 ?_
   trivial
  ·skip
   have c2:=h2
   (simp only [bsX] at c2)
   have hO:=of_decide_eq_false ((Qek hn).symm.trans h2)
   repeat refine o4 ?_
   have hnx:k+1<=ns.length /\ ∀ i,i < k+1->ns.getD i []≠n:=⟨hk,fun i hi=>(Nat.lt_or_ge i k).elim (hx1.2 i) fun q e=>hO (by rw [<- e,show i=k from by omega];rfl)⟩;refine Qt (k+1) ?_
   repeat refine o7 ?_
   trivial
 ·skip
  have c1:=h1
  (simp only [bsX] at c1)
  have hO:=Qk2 (ns:=ns) (n:=n) fun i hi=>hx1.2 i (by omega)
  repeat refine o19 ?_
  trivial
theorem Jt {ns:List (List Bool)} {n:List Bool} (hl:ns.length<=1000) (hn:n.length<=32):Cf Tryz.prog 28 [(0,.rz ns.length 2 (fun i j=>Qz (ns.getD i []) j) 36 0)] [.osl 0 ns.length,We n] [(0,.rz ns.length 2 (fun i j=>Qz (ns.getD i []) j) 36 0)] (.b (decide (n∈ns))):=by
 refine Qr {} Tryz.func28 Tryz.ntmps28 ?_;refine clX (Qoh hl hn) ?_
 repeat (refine Ob.mk ?_ ?_;focus (first | exact QuA | (exact Eq.refl _) | omega | (intro hg;((intro hq;((simp_all;done)))))))
 trivial
theorem Qrl {p n:List Bool} (hp:p.length<=32):Cf Tryz.prog 55 [] [We p,.pp [.u32 (adr n),.i (n.length:Int)] 0] [] (.b (decide (p=n))):=by
 refine Qr {} Tryz.func55 Tryz.ntmps55 ?_
 repeat refine o69 ?_
 trivial
theorem Qrm {ns:List (List Bool)} {n:List Bool} (hl:ns.length<=1000) (hb:∀ x∈ns,x.length<=32):Cf Tryz.prog 98 [(0,.rz ns.length 2 (fun i j=>Qz (ns.getD i []) j) 36 0)] [.osl 0 ns.length,.fn 55 [.pp [.u32 (adr n),.i (n.length:Int)] 0]] [(0,.rz ns.length 2 (fun i j=>Qz (ns.getD i []) j) 36 0)] (.i (Vq ns n)):=by
 refine Qr {} Tryz.func98 Tryz.ntmps98 ?_;refine ⟨Nat,fun k=>⟨[(0,.osl 0 ns.length),(1,.fn 55 [.pp [.u32 (adr n),.i (n.length:Int)] 0]),(7,.i (ns.length:Int)),(8,.i (k:Int))],[(0,.rz ns.length 2 (fun i j=>Qz (ns.getD i []) j) 36 0)]⟩,fun k=>k<=ns.length /\ ∀ i,i < k->ns.getD i []≠n,fun k=>ns.length - k,0,⟨Qxz _,fun i hi=>absurd hi (Nat.not_lt_zero _)⟩,?_,fun k hx1=>?_⟩
 ·skip
  repeat refine o7 ?_
  trivial
 refine ⟨fun h1=>?_,fun h1=>?_⟩
 ·skip
  have c1:=h1
  (simp only [bsX] at c1)
  have hk:k < ns.length:=by omega
  repeat refine o3 ?_
  refine clX (Qrl (n:=n) (Xr hb k)) ?_
  repeat refine o0 ?_
  refine ⟨fun h2=>?_,fun h2=>?_⟩
  ·skip
   have c2:=h2
   (simp only [bsX] at c2)
   have hO:=Qk1 hk hx1.2 (of_decide_eq_true h2)
   repeat refine o19 ?_
   trivial
  ·skip
   have c2:=h2
   (simp only [bsX] at c2)
   have hO:=of_decide_eq_false h2
   repeat refine o4 ?_
   have hnx:k+1<=ns.length /\ ∀ i,i < k+1->ns.getD i []≠n:=⟨hk,fun i hi=>(Nat.lt_or_ge i k).elim (hx1.2 i) fun q e=>hO (by rw [<- e,show i=k from by omega])⟩;refine Qt (k+1) ?_
   repeat refine o7 ?_
   trivial
 ·skip
  have c1:=h1
  (simp only [bsX] at c1)
  have hO:=Qk2 (ns:=ns) (n:=n) fun i hi=>hx1.2 i (by omega)
  repeat refine o19 ?_
  trivial
theorem Qfv {ns:List (List Bool)} {n:List Bool} {k:Int} (hl:ns.length<=1000) (hb:∀ x∈ns,x.length<=32) (h:Vq ns n=k):Cf Tryz.prog 98 [(0,.rz ns.length 2 (fun i j=>Qz (ns.getD i []) j) 36 0)] [.osl 0 ns.length,.fn 55 [.pp [.u32 (adr n),.i (n.length:Int)] 0]] [(0,.rz ns.length 2 (fun i j=>Qz (ns.getD i []) j) 36 0)] (.i k):=h ▸ Qrm hl hb
theorem Qoi {ns:List (List Bool)} {n:List Bool} (hl:ns.length<=1000) (hb:∀ x∈ns,x.length<=32) (hI:Vq ns n = -1):Cf Tryz.prog 54 [(0,.rz ns.length 2 (fun i j=>Qz (ns.getD i []) j) 36 0)] [.osl 0 ns.length,.fn 55 [.pp [.u32 (adr n),.i (n.length:Int)] 0]] [(0,.rz ns.length 2 (fun i j=>Qz (ns.getD i []) j) 36 0)] (.osl 0 ns.length):=by
 refine Qr {} Tryz.func54 Tryz.ntmps54 ?_;refine clX (Qfv hl hb hI) ?_
 repeat refine o7 ?_
 refine ⟨fun h1=>?_,fun h1=>?_⟩
 ·skip
  (simp only [Int.reduceToNat,UInt8.reduceOfNat] at h1)
  have c1:=h1
  (simp only [bsX] at c1)
  repeat refine o7 ?_
  trivial
 ·skip
  (simp only [Int.reduceToNat,UInt8.reduceOfNat] at h1)
  have c1:=h1
  (simp only [bsX] at c1)
  exact absurd (show true=false from h1) (by decide)
structure DelI (ns:List (List Bool)) (n:List Bool) (k:Nat) (L:List (List Bool)):Prop where
 le:k<=ns.length
 len:L.length=ns.length
 tk:L.take (QH (ns.take k) n).length=QH (ns.take k) n
 dr:L.drop k=ns.drop k
 lt:(QH (ns.take k) n).length < k
section
variable {ns:List (List Bool)} {n:List Bool} {k:Nat} {L:List (List Bool)}
theorem QmQ {l m:List (List Bool)} {k i:Nat} (h:l.drop k=m.drop k) (hi:k<=i):l.getD i []=m.getD i []:=by
 have e:∀ l:List (List Bool),(l.drop k).getD (i - k) []=l.getD i []:=fun l=>by
  rw [Qxo,Qxo,List.getElem?_drop,show k+(i - k)=i from by omega]
 rw [<- e l,<- e m,h]
theorem QcG (hk:k < ns.length) (h:ns.getD k []≠n):QH (ns.take (k+1)) n=QH (ns.take k) n++[ns.getD k []]:=by
 rw [Qxo,Qxp hk] at h ⊢;unfold QH;rw [Qxq hk,Qxy];congr 1;simpa using h
theorem Ju (hk:k < ns.length) (h:ns.getD k []=n):QH (ns.take (k+1)) n=QH (ns.take k) n:=by
 rw [Qxo,Qxp hk] at h;unfold QH;rw [Qxq hk,Qxy]
 have e:List.filter (fun m=>!decide (m=n)) [ns[k]]=[]:=by
  have:ns[k]=n:=h;rw [this];simp
 rw [e,List.append_nil]
theorem DelI.ne (h:DelI ns n k L) (hk:k < ns.length) (e:ns.getD k []≠n):DelI ns n (k+1) (L.set (QH (ns.take k) n).length (ns.getD k [])):=by
 have h1:=h.lt;have h2:=h.len;have hs:=QcG hk e;have hl:(QH (ns.take (k+1)) n).length=(QH (ns.take k) n).length+1:=by rw [hs];simp
 refine ⟨hk,by rw [List.length_set];exact h2,?_,?_,by omega⟩
 ·rw [hl,hs,Qxq (by rw [List.length_set];omega),List.take_set_of_le (Qxv _),h.tk];simp
 ·rw [List.drop_set_of_lt (by omega)];have:=congrArg (List.drop 1) h.dr;rw [Qxr,Qxr] at this;exact this
theorem DelI.eq (h:DelI ns n k L) (hk:k < ns.length) (e:ns.getD k []=n):DelI ns n (k+1) L:=by
 have h1:=h.lt;rw [<- Ju hk e] at h1;refine ⟨hk,h.len,by rw [Ju hk e];exact h.tk,?_,by omega⟩;have:=congrArg (List.drop 1) h.dr;rw [Qxr,Qxr] at this;exact this
theorem DelI.fin (h:DelI ns n k L) (hk:k=ns.length):QH (ns.take k) n=QH ns n /\ ∀ i,i < (QH ns n).length->L.getD i []=(QH ns n).getD i []:=by
 subst hk;have h3:=h.tk;rw [List.take_length] at h3 ⊢;refine ⟨rfl,fun i hi=>?_⟩;have:=congrArg (fun l=>l.getD i []) h3;simp only [Qxo,List.getElem?_take,if_pos hi] at this;rw [Qxo,this,Qxo]
end
theorem QgX {L M:List (List Bool)} {i m:Nat} {v:List Bool} {X:List EV} (hX:X=[.u32 (adr v),.i (v.length:Int)]) (hi:i < L.length) (hM:M=L.set i v):∀ a,a < m -> ∀ b,b < 2->stZ (fun i j=>Qz (L.getD i []) j) i 0 X a b=Qz (M.getD a []) b:=by
 intro a _ b hb;subst hX hM;unfold stZ;rw [Qxo (l:=L.set i v)];by_cases e:a=i
 ·subst e;rw [List.getElem?_set_self hi];have hq:b=0\/b=1:=by omega
  rcases hq with rfl | rfl <;> (simp [Qz];rfl)
 ·have:Nat.beq a i=false:=by
   cases q:Nat.beq a i with
   | false=>rfl
   | true=>exact absurd (Nat.eq_of_beq_eq_true q) e
  rw [this,List.getElem?_set_ne (Ne.symm e)];simp [Qxo]
theorem Qoj {ns:List (List Bool)} {n:List Bool} {k0:Nat} (hl:ns.length<=1000) (hb:∀ x∈ns,x.length<=32) (hI:Vq ns n=(k0:Int)) (h0:(QH (ns.take (k0+1)) n).length=k0) (hk:DelI ns n (k0+1) ns):Cf Tryz.prog 54 [(0,.rz ns.length 2 (fun i j=>Qz (ns.getD i []) j) 36 0)] [.osl 0 ns.length,.fn 55 [.pp [.u32 (adr n),.i (n.length:Int)] 0]] [(0,.rz (QH ns n).length 2 (fun i j=>Qz ((QH ns n).getD i []) j) 36 0)] (.osl 0 (QH ns n).length):=by
 have hk1:=hk.le;refine Qr {cut:=[38,41]} Tryz.func54 Tryz.ntmps54 ?_;refine clX (Qfv hl hb hI) ?_
 repeat refine o7 ?_
 refine ⟨fun h1=>?_,fun h1=>?_⟩
 ·skip
  have c1:=h1
  (simp only [bsX] at c1)
  exact absurd c1 (by omega)
 ·skip
  have c1:=h1
  (simp only [bsX] at c1)
  repeat refine o4 ?_
  refine ⟨Nat×List (List Bool),fun s=>⟨[(0,.osl 0 ns.length),(1,.fn 55 [.pp [.u32 (adr n),.i (n.length:Int)] 0]),(5,.i ((QH (ns.take s.1) n).length:Int)),(6,.i (s.1:Int))],[(0,.rz ns.length 2 (fun i j=>Qz (s.2.getD i []) j) 36 0)]⟩,fun s=>DelI ns n s.1 s.2,fun s=>ns.length - s.1,(k0+1,ns),hk,?_,fun s hx1=>?_⟩
  ·skip
   repeat refine o36 ?_
   trivial
  refine ⟨fun h2=>?_,fun h2=>?_⟩
  ·skip
   have c2:=h2
   (simp only [bsX] at c2)
   have hj:s.1 < ns.length:=by omega
   have hg:s.2.getD s.1 []=ns.getD s.1 []:=QmQ hx1.dr (Qxv _);have hlt:=hx1.lt;have hlen:=hx1.len
   repeat refine o3 ?_
   refine clX (Qrl (n:=n) (Xr hb s.1)) ?_
   repeat refine o70 ?_
   refine ⟨fun h3=>?_,fun h3=>?_⟩
   ·skip
    have c3:=h3
    (simp only [bsX] at c3)
    have hz:(if ns.getD s.1 []=n then s.2 else s.2.set (QH (ns.take s.1) n).length (ns.getD s.1 []))=s.2.set (QH (ns.take s.1) n).length (ns.getD s.1 []):=if_neg c3;have hd:=QcG hj c3;have hdl:(QH (ns.take (s.1+1)) n).length=(QH (ns.take s.1) n).length+1:=by rw [hd];simp
    have hnx:=hx1.ne hj c3;rw [<- hz] at hnx
    repeat refine o4 ?_
    refine Qt (s.1+1,if ns.getD s.1 []=n then s.2 else s.2.set (QH (ns.take s.1) n).length (ns.getD s.1 [])) ?_
    repeat refine o71 ?_
    trivial
   ·skip
    have c3:=h3
    (simp only [bsX] at c3)
    have hz:(if ns.getD s.1 []=n then s.2 else s.2.set (QH (ns.take s.1) n).length (ns.getD s.1 []))=s.2:=if_pos c3;have hd:=Ju hj c3;have hnx:=hx1.eq hj c3;rw [<- hz] at hnx
    repeat refine o4 ?_
    refine Qt (s.1+1,if ns.getD s.1 []=n then s.2 else s.2.set (QH (ns.take s.1) n).length (ns.getD s.1 [])) ?_
    repeat refine o53 ?_
    trivial
  ·skip
   have c2:=h2
   (simp only [bsX] at c2)
   have hlt:=hx1.lt;have hle:=hx1.le;have hfin:=hx1.fin (by omega)
   repeat refine o54 ?_
   trivial
theorem Qrn {ns:List (List Bool)} {n:List Bool} (h:n∈ns):∃ k,k < ns.length/\Vq ns n=(k:Int)/\ns.getD k []=n /\ ∀ i,i < k->ns.getD i []≠n:=by
 have h1:=Qxs h;refine ⟨ns.idxOf n,h1,by unfold Vq;rw [if_pos h],?_,fun i hi e=>?_⟩
 ·rw [Qxo,Qxp h1];exact Qxx h1
 ·have:=QxA (p:=(· == n)) (xs:=ns) (i:=i) hi;rw [Qxo,Qxp (by omega)] at e;have e':ns[i]=n:=e;rw [e'] at this;simp at this
theorem Qel {ns:List (List Bool)} {n:List Bool}:∀ k,k<=ns.length->(∀ i,i < k->ns.getD i []≠n)->QH (ns.take k) n=ns.take k
 | 0,_,_=>rfl
 | k+1,hk,h=>by
  rw [QcG (by omega) (h k (by omega)),Qel k (by omega) fun i hi=>h i (by omega),Qxq (by omega),Qxo,Qxp (by omega)];rfl
theorem QmR {ns:List (List Bool)} {n:List Bool} (hl:ns.length<=1000) (hb:∀ x∈ns,x.length<=32):Cf Tryz.prog 54 [(0,.rz ns.length 2 (fun i j=>Qz (ns.getD i []) j) 36 0)] [.osl 0 ns.length,.fn 55 [.pp [.u32 (adr n),.i (n.length:Int)] 0]] [(0,.rz (QH ns n).length 2 (fun i j=>Qz ((QH ns n).getD i []) j) 36 0)] (.osl 0 (QH ns n).length):=by
 by_cases h:n∈ns
 ·obtain ⟨k,h1,h2,h3,h4⟩:=Qrn h;have e:=Qel k (by omega) h4;have e2:=Ju h1 h3;have e3:(QH (ns.take (k+1)) n).length=k:=by rw [e2,e,List.length_take];omega
  refine Qoj hl hb h2 e3 ⟨by omega,rfl,?_,rfl,by omega⟩;rw [e3,e2,e]
 ·have e:QH ns n=ns:=List.filter_eq_self.2 fun x hx=>by simp;exact fun k=>h (k ▸ hx)
  rw [e];exact Qoi hl hb (by unfold Vq;rw [if_neg h])
end
end Go.Proofs.YtcebndkiagbddaaGreatDoor
