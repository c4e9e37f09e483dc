/- A part of the proof: contracts of functions and what they stand on. Written shorter and merged by a program (pack.py). -/
import Derived.Test.YtcebndkiagbddaaGreatDoorK22
set_option linter.unusedVariables false
set_option linter.unusedSimpArgs false
set_option maxRecDepth 100000
set_option maxHeartbeats 4000000
open List renaming mem_or_eq_of_mem_set → Qy3
namespace Go.Proofs.YtcebndkiagbddaaGreatDoor
section
open Go.RowKit
theorem QyJ {j:Nat} {L:List (List Bool)} (h:0 < j) (hlt:ltB (L.getD j []) (L.getD (j - 1) [])=true):Qeq j L=Qeq (j - 1) (swp L (j - 1)):=by
 obtain ⟨k,rfl⟩:∃ k,j=k+1:=⟨j - 1,by omega⟩;exact if_pos hlt
theorem QyK {j:Nat} {L:List (List Bool)} (h:¬ (0 < j∧ltB (L.getD j []) (L.getD (j - 1) [])=true)):Qeq j L=L:=by
 cases j with
 | zero=>rfl
 | succ k =>
  exact if_neg fun q=>h ⟨Nat.succ_pos k,q⟩
theorem Qpn {p q:List Bool}:Qlk p q < 0↔ltB p q=true:=by
 unfold Qlk;by_cases h:ltB p q=true
 ·rw [if_pos h];exact ⟨fun _=>h,fun _=>by decide⟩
 ·rw [if_neg h];refine ⟨fun k=>?_,fun k=>absurd k h⟩;split at k <;> omega
theorem QwO {L:List (List Bool)} {j:Nat} (h:∀ x∈L,x.length≤32):∀ x∈swp L j,x.length≤32:=fun x hx=>by
 unfold swp at hx;rcases Qy3 hx with k | k
 ·rcases Qy3 k with k | k
  ·exact h x k
  ·rw [k];exact ZQ h _
 ·rw [k];exact ZQ h _
theorem QwP {L M:List (List Bool)} {j i m:Nat} {u v:List Bool} {X Y:List EV} (hX:X=[.u32 (adr v),.i (v.length:Int)]) (hY:Y=[.u32 (adr u),.i (u.length:Int)]) (hi:i < L.length) (hj:j < L.length) (hM:M=(L.set i v).set j u):∀ a,a < m → ∀ b,b < 2→stZ (stZ (fun i j=>QL (L.getD i []) j) i 0 X) j 0 Y a b=QL (M.getD a []) b:=by
 intro a ha b hb;have h1:=Qjh (m:=m) hX hi (Eq.refl _) a ha b hb;have h2:=Qjh (L:=L.set i v) (m:=m) hY (by rw [List.length_set];exact hj) hM a ha b hb;rw [← h2];unfold stZ at h1 ⊢;rw [h1]
theorem QwQ {ns:List (List Bool)} (hl:ns.length≤1000) (hb:∀ x∈ns,x.length≤32):Cf Tryz.prog 134 [(0,.rz ns.length 2 (fun i j=>QL (ns.getD i []) j) 36 0)] [.osl 0 ns.length,.i 0,.i (ns.length:Int),.v (.func (.func 53) #[] #[])] [(0,.rz ns.length 2 (fun i j=>QL ((Zp ns).getD i []) j) 36 0)] (.tup []):=by
 refine QV {} Tryz.func134 Tryz.ntmps134 ?_
 repeat refine o3 ?_
 refine ⟨Nat,fun k=>⟨[(0,.osl 0 ns.length),(1,.i 0),(2,.i (ns.length:Int)),(3,.v (.func (.func 53) #[] #[])),(8,.i ((k:Int)+1))],[(0,.rz ns.length 2 (fun i j=>QL ((QdI ns k).getD i []) j) 36 0)]⟩,fun k=>(k=0∨k+1≤ns.length) ∧ ∀ x∈QdI ns k,x.length≤32,fun k=>ns.length - k,0,⟨.inl rfl,hb⟩,?_,fun k hx1=>?_⟩
 ·skip
  repeat refine o2 ?_
  trivial
 refine ⟨fun h1=>?_,fun h1=>?_⟩
 ·skip
  have c1:=h1
  (simp only [bsX] at c1)
  have hk:k+1 < ns.length:=by omega
  refine ⟨Nat×List (List Bool),fun s=>⟨[(0,.osl 0 ns.length),(1,.i 0),(2,.i (ns.length:Int)),(3,.v (.func (.func 53) #[] #[])),(8,.i ((k:Int)+1)),(9,.i (s.1:Int))],[(0,.rz ns.length 2 (fun i j=>QL (s.2.getD i []) j) 36 0)]⟩,fun s=>s.1≤k+1∧s.2.length=ns.length∧Qeq s.1 s.2=QdI ns (k+1) ∧ ∀ x∈s.2,x.length≤32,fun s=>s.1,(k+1,QdI ns k),⟨Nat.le_refl _,Qln ns k,rfl,hx1.2⟩,?_,fun s hx2=>?_⟩
  ·skip
   repeat refine o2 ?_
   trivial
  refine ⟨[0,0,3,7,15,15,15,111,239,15,15,1039,3599,7695,16383,32767,65535],by kernel_rfl,?_⟩
  repeat refine o55 ?_
  refine gx (fun hc=>(Qtm (p:=s.2.getD s.1 []) (q:=s.2.getD (s.1 - 1) []) (ZQ hx2.2.2.2 s.1))) (fun hk=>⟨hk,?_⟩)
  repeat refine o56 ?_
  refine ⟨fun h2=>?_,fun h2=>?_⟩
  ·skip
   have c2:=h2
   (simp only [bsX] at c2)
   have hj:0 < s.1:=by have:=(c2).1;omega
   have hlt:=Qpn.1 (c2).2;have e1:((s.1:Int) - 1).toNat=s.1 - 1:=by omega
   have hM:swp s.2 (s.1 - 1)=(s.2.set s.1 (s.2.getD ((s.1:Int) - 1).toNat [])).set ((s.1:Int) - 1).toNat (s.2.getD s.1 []):=by rw [e1];unfold swp;rw [Nat.sub_add_cancel hj]
   have hnx:s.1 - 1≤k+1∧(swp s.2 (s.1 - 1)).length=ns.length∧Qeq (s.1 - 1) (swp s.2 (s.1 - 1))=QdI ns (k+1) ∧ ∀ x∈swp s.2 (s.1 - 1),x.length≤32:=⟨by have:=hx2.1;omega,(QoX _ _).trans hx2.2.1,(QyJ hj hlt).symm.trans hx2.2.2.1,QwO hx2.2.2.2⟩;have hle:=hx2.1;have hlen:=hx2.2.1;refine ⟨[0,0,0,0,8,0,0,64,224,480,0,0,3072,7168,16355,32739,65535,131071],by kernel_rfl,?_⟩
   repeat refine o3 ?_
   refine Ql (s.1 - 1,swp s.2 (s.1 - 1)) ?_
   repeat (refine Ob.mk ?_ ?_;focus (first | (exact QwP (u:=s.2.getD s.1 []) (v:=s.2.getD ((s.1:Int) - 1).toNat []) rfl rfl (show s.1 < s.2.length by omega) (by omega) hM) | (exact Eq.refl _) | omega))
   trivial
  ·skip
   have c2:=h2
   (simp only [bsX] at c2)
   have hE:s.2=QdI ns (k+1):=(QyK (fun q=>by have h1:=Qpn.2 q.2;have h2:=q.1;omega)).symm.trans hx2.2.2.1;have hnx:(k+1=0∨k+1+1≤ns.length) ∧ ∀ x∈QdI ns (k+1),x.length≤32:=⟨by omega,hE ▸ hx2.2.2.2⟩
   repeat refine o3 ?_
   refine Ql (k+1) ?_
   repeat (refine Ob.mk ?_ ?_;focus (first | (exact hE ▸ fun _ _ _ _=>rfl) | (exact Eq.refl _) | omega))
   trivial
 ·skip
  have c1:=h1
  (simp only [bsX] at c1)
  have hO:=Qtc (l:=ns) (i:=k+1) (by omega) (by omega) (by omega)
  repeat (refine Ob.mk ?_ ?_;focus (first | (exact hO ▸ fun _ _ _ _=>rfl) | (exact Eq.refl _) | omega))
  trivial
theorem QwR {ns:List (List Bool)} {lim:Int} (hl:ns.length≤12) (hb:∀ x∈ns,x.length≤32):Cf Tryz.prog 96 [(0,.rz ns.length 2 (fun i j=>QL (ns.getD i []) j) 36 0)] [.osl 0 ns.length,.i 0,.i (ns.length:Int),.i lim,.v (.func (.func 53) #[] #[])] [(0,.rz ns.length 2 (fun i j=>QL ((Zp ns).getD i []) j) 36 0)] (.tup []):=by
 refine QV {} Tryz.func96 Tryz.ntmps96 ?_;refine ⟨Nat,fun k=>⟨[(0,.osl 0 ns.length),(1,.i 0),(2,.i (ns.length:Int)),(4,.v (.func (.func 53) #[] #[]))],[(0,.rz ns.length 2 (fun i j=>QL (ns.getD i []) j) 36 0)]⟩,fun k=>True,fun k=>0,0,trivial,?_,fun k hx1=>?_⟩
 ·skip
  repeat refine o11 ?_
  trivial
 repeat refine o3 ?_
 refine ⟨fun h1=>?_,fun h1=>?_⟩
 ·skip
  have c1:=h1
  (simp only [bsX] at c1)
  refine clX (QwQ (Nat.le_trans hl (by decide)) hb) ?_
  repeat refine o11 ?_
  trivial
 ·skip
  have c1:=h1
  (simp only [bsX] at c1)
  exact absurd c1 (by omega)
theorem QwS {c:UInt64}:Cf Tryz.prog 97 [] [.u64 c] [] (.i (Lib.bitLen c.toNat:Int)) :=
 Cf.of (by kernel_rfl) fun w Pub φ vs hp hR=>by
  obtain ⟨u,rfl,h1⟩:=ra1 hR;have e:u=.int .u64 (c.toNat:Int):=by unfold EV.av RA RP at h1;exact h1
  subst e;refine (Tryz.bits_Len (c.toNat:Int) w (by omega) (by have:=c.toNat_lt;omega)).mono ?_;rintro e w' ⟨rfl,rfl⟩;exact ⟨by rw [Int.toNat_natCast],Below.refl _ _⟩
theorem Ql2 {ns:List (List Bool)} (hl:ns.length≤12) (hb:∀ x∈ns,x.length≤32):Cf Tryz.prog 52 [(0,.rz ns.length 2 (fun i j=>QL (ns.getD i []) j) 36 0)] [.osl 0 ns.length,.v (.func (.func 53) #[] #[])] [(0,.rz ns.length 2 (fun i j=>QL ((Zp ns).getD i []) j) 36 0)] (.tup []):=by
 refine Qs {} Tryz.func52 Tryz.ntmps52 ?_;refine clX (QwS (c:=UInt64.ofNat ((ns.length:Int) % 18446744073709551616).toNat)) ?_
 repeat refine o0 ?_
 refine clX (QwR (lim:=(Lib.bitLen (UInt64.ofNat ((ns.length:Int) % 18446744073709551616).toNat).toNat:Int)) hl hb) ?_
 repeat refine o11 ?_
 trivial
end
end Go.Proofs.YtcebndkiagbddaaGreatDoor
