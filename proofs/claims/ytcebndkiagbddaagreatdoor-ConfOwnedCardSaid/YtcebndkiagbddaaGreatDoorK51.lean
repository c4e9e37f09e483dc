/- A part of the proof: contracts of functions and what they stand on. Written shorter and merged by a program (pack.py). -/
import Derived.Test.YtcebndkiagbddaaGreatDoorK48
set_option linter.unusedVariables false
set_option linter.unusedSimpArgs false
set_option maxRecDepth 100000
set_option maxHeartbeats 4000000
open List renaming getD_eq_getElem?_getD -> Qxo, take_succ_eq_append_getElem -> Qxp, getElem?_eq_getElem -> Qxq, drop_drop -> Qxr, filter_append -> Qxs, length_cons -> Qxw
namespace Go.Proofs.YtcebndkiagbddaaGreatDoor
section
open Go.RowKit
structure DelP (ns:List PeerS) (n:List UInt8) (k:Nat) (L:List PeerS):Prop where
 le:k<=ns.length
 len:L.length=ns.length
 tk:L.take (QQ n (ns.take k)).length=QQ n (ns.take k)
 dr:L.drop k=ns.drop k
 lt:(QQ n (ns.take k)).length < k
section
variable {ns:List PeerS} {n:List UInt8} {k:Nat} {L:List PeerS}
theorem QuY {l m:List PeerS} {k i:Nat} (h:l.drop k=m.drop k) (hi:k<=i):l.getD i Qa=m.getD i Qa:=by
 have e:∀ l:List PeerS,(l.drop k).getD (i - k) Qa=l.getD i Qa:=fun l=>by
  rw [Qxo,Qxo,List.getElem?_drop,show k+(i - k)=i from by omega]
 rw [<- e l,<- e m,h]
theorem Qg4 (hk:k < ns.length) (h:(ns.getD k Qa).k≠n):QQ n (ns.take (k+1))=QQ n (ns.take k)++[ns.getD k Qa]:=by
 rw [Qxo,Qxq hk] at h ⊢;unfold QQ;rw [Qxp hk,Qxs];congr 1;simpa using h
theorem QcM (hk:k < ns.length) (h:(ns.getD k Qa).k=n):QQ n (ns.take (k+1))=QQ n (ns.take k):=by
 rw [Qxo,Qxq hk] at h;unfold QQ;rw [Qxp hk,Qxs]
 have e:List.filter (fun m:PeerS=>!decide (m.k=n)) [ns[k]]=[]:=by
  have:ns[k].k=n:=h;simp [this]
 rw [e,List.append_nil]
theorem DelP.ne (h:DelP ns n k L) (hk:k < ns.length) (e:(ns.getD k Qa).k≠n):DelP ns n (k+1) (L.set (QQ n (ns.take k)).length (ns.getD k Qa)):=by
 have h1:=h.lt;have h2:=h.len;have hs:=Qg4 hk e;have hl:(QQ n (ns.take (k+1))).length=(QQ n (ns.take k)).length+1:=by rw [hs];simp
 refine ⟨hk,by rw [List.length_set];exact h2,?_,?_,by omega⟩
 ·rw [hl,hs,Qxp (by rw [List.length_set];omega),List.take_set_of_le (Nat.le_refl _),h.tk];simp
 ·rw [List.drop_set_of_lt (by omega)];have:=congrArg (List.drop 1) h.dr;rw [Qxr,Qxr] at this;exact this
theorem DelP.eq (h:DelP ns n k L) (hk:k < ns.length) (e:(ns.getD k Qa).k=n):DelP ns n (k+1) L:=by
 have h1:=h.lt;rw [<- QcM hk e] at h1;refine ⟨hk,h.len,by rw [QcM hk e];exact h.tk,?_,by omega⟩;have:=congrArg (List.drop 1) h.dr;rw [Qxr,Qxr] at this;exact this
theorem DelP.fin (h:DelP ns n k L) (hk:k=ns.length):QQ n (ns.take k)=QQ n ns /\ ∀ i,i < (QQ n ns).length->L.getD i Qa=(QQ n ns).getD i Qa:=by
 subst hk;have h3:=h.tk;rw [List.take_length] at h3 ⊢;refine ⟨rfl,fun i hi=>?_⟩;have:=congrArg (fun l=>l.getD i Qa) h3;simp only [Qxo,List.getElem?_take,if_pos hi] at this;rw [Qxo,this,Qxo]
end
theorem Qjq {ns:List PeerS} {n:List UInt8}:∀ k,k<=ns.length->(∀ i,i < k->(ns.getD i Qa).k≠n)->QQ n (ns.take k)=ns.take k
 | 0,_,_=>rfl
 | k+1,hk,h=>by
  rw [Qg4 (by omega) (h k (by omega)),Qjq k (by omega) fun i hi=>h i (by omega),Qxp (by omega),Qxo,Qxq (by omega)];rfl
theorem Qr7 {ps:List PeerS} {k:List UInt8} {i:Nat} (h:Qq ps k=(i:Int)):i < ps.length/\(ps.getD i Qa).k=k /\ ∀ j,j < i->(ps.getD j Qa).k≠k:=by
 unfold Qq at h;by_cases hm:k∈ps.map (·.k)
 ·rw [if_pos hm] at h;have h1:=List.idxOf_lt_length_of_mem hm;have h2:(ps.map (·.k)).idxOf k=i:=by omega
  have g:∀ j (hj:j < (ps.map (·.k)).length),(ps.map (·.k))[j]=(ps.getD j Qa).k:=fun j hj=>by
   rw [List.getElem_map,Qxo,Qxq (by simpa using hj)];rfl
  refine ⟨by rw [<- h2];simpa using h1,?_,fun j hj e=>?_⟩
  ·rw [<- h2,<- g _ h1];exact List.getElem_idxOf h1
  ·have hj2:j < (ps.map (·.k)).length:=by omega
   have:=List.not_of_lt_findIdx (p:=(· == k)) (xs:=ps.map (·.k)) (i:=j) (by rw [<- h2] at hj;exact hj);rw [g j hj2,e] at this;simp at this
 ·rw [if_neg hm] at h;omega
theorem QuZ {L M:List PeerS} {i m:Nat} {v:PeerS} {X:List EV} (hX:X=[.s v.k,.s v.s,.s v.e,.i v.a,Wm v.ns]) (hi:i < L.length) (hM:M=L.set i v):∀ a,a < m -> ∀ b,b < 5->stZ (fun i j=>Qe (L.getD i Qa) j) i 0 X a b=Qe (M.getD a Qa) b:=by
 intro a _ b hb;subst hX hM;unfold stZ;rw [Qxo (l:=L.set i v)];by_cases e:a=i
 ·subst e;rw [List.getElem?_set_self hi];have hq:b=0\/b=1\/b=2\/b=3\/b=4:=by omega
  have hbb:Nat.beq a a=true:=by simp
  rw [hbb];rcases hq with rfl | rfl | rfl | rfl | rfl <;> rfl
 ·have:Nat.beq a i=false:=by
   cases q:Nat.beq a i with
   | false=>rfl
   | true=>exact absurd (Nat.eq_of_beq_eq_true q) e
  rw [this,List.getElem?_set_ne (Ne.symm e)];simp [Qxo]
theorem Qm7 {p:PeerS} {k:List UInt8}:Cf Tryz.prog 115 [] [QmM p,.pp [.s k] 0] [] (.b (decide (p.k=k))):=by
 refine Qr {} Tryz.func115 Tryz.ntmps115 ?_
 repeat refine o0 ?_
 trivial
theorem Qr8 {ps:List PeerS} {k:List UInt8} (hl:ps.length<=1000):Cf Tryz.prog 128 [(0,.rz ps.length 5 (fun u v=>Qe (ps.getD u Qa) v) 33 0)] [.osl 0 ps.length,.fn 115 [.pp [.s k] 0]] [(0,.rz ps.length 5 (fun u v=>Qe (ps.getD u Qa) v) 33 0)] (.i (Qq ps k)):=by
 refine Qr {} Tryz.func128 Tryz.ntmps128 ?_;refine ⟨Nat,fun i=>⟨[(0,.osl 0 ps.length),(1,.fn 115 [.pp [.s k] 0]),(7,.i (ps.length:Int)),(8,.i (i:Int))],[(0,.rz ps.length 5 (fun u v=>Qe (ps.getD u Qa) v) 33 0)]⟩,fun i=>i<=ps.length /\ ∀ j,j < i->(ps.getD j Qa).k≠k,fun i=>ps.length - i,0,⟨Nat.zero_le _,fun i hi=>absurd hi (Nat.not_lt_zero _)⟩,?_,fun i hx1=>?_⟩
 ·skip
  repeat refine o7 ?_
  trivial
 refine ⟨fun h1=>?_,fun h1=>?_⟩
 ·skip
  have c1:=h1
  (simp only [bsX] at c1)
  have hk:i < ps.length:=by omega
  repeat refine o3 ?_
  refine clX (Qm7 (p:=ps.getD i Qa) (k:=k)) ?_
  repeat refine o10 ?_
  refine ⟨fun h2=>?_,fun h2=>?_⟩
  ·skip
   have c2:=h2
   (simp only [bsX] at c2)
   have hO:=QmU hk hx1.2 c2
   repeat refine o19 ?_
   trivial
  ·skip
   have c2:=h2
   (simp only [bsX] at c2)
   repeat refine o4 ?_
   have hnx:i+1<=ps.length /\ ∀ j,j < i+1->(ps.getD j Qa).k≠k:=⟨hk,fun j hj=>(Nat.lt_or_ge j i).elim (hx1.2 j) fun q e=>c2 (by rw [<- e,show j=i from by omega])⟩;refine Qt (i+1) ?_
   repeat refine o7 ?_
   trivial
 ·skip
  have c1:=h1
  (simp only [bsX] at c1)
  have hO:=QmV (ps:=ps) (k:=k) fun j hj=>hx1.2 j (by omega)
  repeat refine o19 ?_
  trivial
theorem QoT {ps:List PeerS} {k:List UInt8} {i:Int} (hl:ps.length<=1000) (h:Qq ps k=i):Cf Tryz.prog 128 [(0,.rz ps.length 5 (fun u v=>Qe (ps.getD u Qa) v) 33 0)] [.osl 0 ps.length,.fn 115 [.pp [.s k] 0]] [(0,.rz ps.length 5 (fun u v=>Qe (ps.getD u Qa) v) 33 0)] (.i i):=h ▸ Qr8 hl
theorem QoU {ns:List PeerS} {n:List UInt8} {k0:Nat} (hl:ns.length<=1000) (hI:Qq ns n=(k0:Int)) (h0:(QQ n (ns.take (k0+1))).length=k0) (hk:DelP ns n (k0+1) ns):Cf Tryz.prog 114 [(0,.rz ns.length 5 (fun u v=>Qe (ns.getD u Qa) v) 33 0)] [.osl 0 ns.length,.fn 115 [.pp [.s n] 0]] [(0,.rz (QQ n ns).length 5 (fun u v=>Qe ((QQ n ns).getD u Qa) v) 33 0)] (.osl 0 (QQ n ns).length):=by
 have hk1:=hk.le;refine Qr {cut:=[38,41]} Tryz.func114 Tryz.ntmps114 ?_;refine clX (QoT hl hI) ?_
 repeat refine o7 ?_
 refine ⟨fun h1=>?_,fun h1=>?_⟩
 ·skip
  have c1:=h1
  (simp only [bsX] at c1)
  exact absurd c1 (by omega)
 ·skip
  have c1:=h1
  (simp only [bsX] at c1)
  repeat refine o4 ?_
  refine ⟨Nat×List PeerS,fun s=>⟨[(0,.osl 0 ns.length),(1,.fn 115 [.pp [.s n] 0]),(5,.i ((QQ n (ns.take s.1)).length:Int)),(6,.i (s.1:Int))],[(0,.rz ns.length 5 (fun u v=>Qe (s.2.getD u Qa) v) 33 0)]⟩,fun s=>DelP ns n s.1 s.2,fun s=>ns.length - s.1,(k0+1,ns),hk,?_,fun s hx1=>?_⟩
  ·skip
   repeat refine o36 ?_
   trivial
  refine ⟨fun h2=>?_,fun h2=>?_⟩
  ·skip
   have c2:=h2
   (simp only [bsX] at c2)
   have hj:s.1 < ns.length:=by omega
   have hg:s.2.getD s.1 Qa=ns.getD s.1 Qa:=QuY hx1.dr (Nat.le_refl _);have hlt:=hx1.lt;have hlen:=hx1.len
   repeat refine o3 ?_
   refine clX (Qm7 (p:=ns.getD s.1 Qa) (k:=n)) ?_
   repeat (refine Ob.mk ?_ ?_;focus (first | (rw [Int.toNat_natCast,hg];done) | (exact Eq.refl _) | (intro hg;((intro hq;((simp_all;done)))))))
   refine ⟨fun h3=>?_,fun h3=>?_⟩
   ·skip
    have c3:=h3
    (simp only [bsX] at c3)
    have hz:(if (ns.getD s.1 Qa).k=n then s.2 else s.2.set (QQ n (ns.take s.1)).length (ns.getD s.1 Qa))=s.2.set (QQ n (ns.take s.1)).length (ns.getD s.1 Qa):=if_neg c3;have hd:=Qg4 hj c3;have hdl:(QQ n (ns.take (s.1+1))).length=(QQ n (ns.take s.1)).length+1:=by rw [hd];simp
    have hnx:=hx1.ne hj c3;rw [<- hz] at hnx
    repeat refine o4 ?_
    refine Qt (s.1+1,if (ns.getD s.1 Qa).k=n then s.2 else s.2.set (QQ n (ns.take s.1)).length (ns.getD s.1 Qa)) ?_
    repeat (refine Ob.mk ?_ ?_;focus (first | (exact QuZ (v:=s.2.getD s.1 Qa) rfl (by omega) (hz.trans (congrArg (List.set s.2 (QQ n (ns.take s.1)).length) hg.symm))) | (exact Eq.refl _) | omega | (simp only [SrcE.len,Nat.zero_add,List.length_append,Qxw,List.length_nil];omega)))
    trivial
   ·skip
    have c3:=h3
    (simp only [bsX] at c3)
    have hz:(if (ns.getD s.1 Qa).k=n then s.2 else s.2.set (QQ n (ns.take s.1)).length (ns.getD s.1 Qa))=s.2:=if_pos c3;have hd:=QcM hj c3;have hnx:=hx1.eq hj c3;rw [<- hz] at hnx
    repeat refine o4 ?_
    refine Qt (s.1+1,if (ns.getD s.1 Qa).k=n then s.2 else s.2.set (QQ n (ns.take s.1)).length (ns.getD s.1 Qa)) ?_
    repeat refine o53 ?_
    trivial
  ·skip
   have c2:=h2
   (simp only [bsX] at c2)
   have hlt:=hx1.lt;have hle:=hx1.le;have hfin:=hx1.fin (by omega)
   repeat refine o54 ?_
   trivial
theorem Qr9 {ns:List PeerS} {n:List UInt8} {k:Nat} (hl:ns.length<=1000) (h2:Qq ns n=(k:Int)):Cf Tryz.prog 114 [(0,.rz ns.length 5 (fun u v=>Qe (ns.getD u Qa) v) 33 0)] [.osl 0 ns.length,.fn 115 [.pp [.s n] 0]] [(0,.rz (QQ n ns).length 5 (fun u v=>Qe ((QQ n ns).getD u Qa) v) 33 0)] (.osl 0 (QQ n ns).length):=by
 obtain ⟨h1,h3,h4⟩:=Qr7 h2;have e:=Qjq k (by omega) h4;have e2:=QcM h1 h3;have e3:(QQ n (ns.take (k+1))).length=k:=by rw [e2,e,List.length_take];omega
 refine QoU hl h2 e3 ⟨by omega,rfl,?_,rfl,by omega⟩;rw [e3,e2,e]
theorem Qsa {c:ConfS} {at_:List UInt8} {i:Nat} (hl:c.ps.length<=6) (ha:at_≠[]) (hi:i < c.ps.length) (hk:Qq c.ps at_=(i:Int)):Cf Tryz.prog 70 [(0,.box [.s c.k,.i c.port,.osl 1 c.ps.length] 25),(1,.rz (c.ps).length 5 (fun u v=>Qe ((c.ps).getD u Qa) v) 33 0)] [.own 0 0,.s at_,.agg [.i 5,.s [],.i 0,.u32 0,.i 0]] [(0,.box [.s c.k,.i c.port,.osl 1 (QQ at_ c.ps).length] 25),(1,.rz (QQ at_ c.ps).length 5 (fun u v=>Qe ((QQ at_ c.ps).getD u Qa) v) 33 0)] (.tup [.s [],.i 0]):=by
 refine QJ {} Tryz.func70 Tryz.ntmps70 ?_;refine clX (WV (c:=c) (k:=5) (n:=0) (b:=0) (t:=[]) (a:=0) (by decide)) ?_
 repeat refine o1 ?_
 refine knF (knF ?_);refine clX (X5 (c:=c) hl ha hi hk) ?_
 repeat refine o1 ?_
 refine knF (knT ?_);refine clX (Qr9 (ns:=c.ps) (n:=at_) (by omega) hk) ?_
 repeat refine o1 ?_
 trivial
theorem Qsb {c:ConfS} {at_:List UInt8} {i:Nat} (ha:at_≠[]) (hi:i < c.ps.length) (hk:Qq c.ps at_=(i:Int)) (h:ConfOk c) (hs:QT ⟨5,[],0,[]⟩) (ho:ConfOk ⟨c.k,c.port,QQ at_ c.ps⟩):Cf Tryz.prog 26 [] [Qn c,.s at_,Zq ⟨5,[],0,[]⟩] [] (.tup [Qn ⟨c.k,c.port,QQ at_ c.ps⟩,.s [],.i 0]):=by
 refine Qr {} Tryz.func26 Tryz.ntmps26 ?_;refine clX (Qf h) ?_
 repeat refine o2 ?_
 refine knF ?_;refine clX (QG hs) ?_
 repeat refine o0 ?_
 refine knF ?_;refine clX (Qy (c:=c) (hl3 h) (h86 h)) ?_
 repeat refine o2 ?_
 refine clX (Qsa (c:=c) h.pl ha hi hk) ?_
 repeat refine o1 ?_
 refine knF ?_;refine clX (Qy (c:=⟨c.k,c.port,QQ at_ c.ps⟩) (hl3 ho) (h86 ho)) ?_
 repeat refine o2 ?_
 trivial
end
end Go.Proofs.YtcebndkiagbddaaGreatDoor
