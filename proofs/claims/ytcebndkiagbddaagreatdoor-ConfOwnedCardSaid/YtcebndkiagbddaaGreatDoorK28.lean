/- A part of the proof: contracts of functions and what they stand on. Written shorter and merged by a program (pack.py). -/
import Derived.Test.YtcebndkiagbddaaGreatDoorK27
import Derived.Test.YtcebndkiagbddaaGreatDoorK25
set_option linter.unusedVariables false
set_option linter.unusedSimpArgs false
set_option maxRecDepth 100000
set_option maxHeartbeats 4000000
open List renaming append_nil -> Qxo, length_append -> Qxp, mem_or_eq_of_mem_set -> Qxq, length_cons -> Qxw
open Eq renaming refl -> Qxr
namespace Go.Proofs.YtcebndkiagbddaaGreatDoor
section
open Go.RowKit Tr
theorem QcA {p:List Bool} {b:Bool} {q o l r} (h:(Tr.node q o l r).und (p++[b])):p++[b] <+: q:=h
theorem QaR (p:List Bool) (o:List UInt8) (l r:Tr):0 < (Tr.node p o l r).flat.length:=by rw [QV];omega
theorem V5:∀ (T:Tr) (R:List Nd),T.wf->(T.flat++R).length<=1000000->T≠.nil->Cf Tryz.prog 102 [] [Qj (T.flat++R)] [] (.tup [.rp T.c,Qj R,.b true])
 | .nil,R,w,hn,h=>absurd rfl h
 | .node p o .nil .nil,R,w,hn,_=>by
  obtain ⟨hp,ul,ur,hx,wl,wr⟩:=w;exact QkI hp rfl (fun e=>(hx e).1 rfl) hn
 | .node p o (.node a b c d) .nil,R,w,hn,_=>by
  obtain ⟨hp,ul,ur,hx,wl,wr⟩:=w;have e:(Tr.node a b c d).flat++Tr.nil.flat=(Tr.node a b c d).flat:=Qxo _;have hn':(((Tr.node a b c d).flat++Tr.nil.flat)++R).length+1<=1000000:=hn;rw [e] at hn';have l1:(Tr.node a b c d).flat.length<=1000000:=by rw [Qxp] at hn';omega
  have g:=V5 (.node a b c d) [] wl (by rw [Qxo];exact l1) (fun e=>by cases e);rw [Qxo] at g;have k:=QkJ (p:=p) (o:=o) (R:=R) (s:=(Tr.node a b c d).flat.length+Tr.nil.flat.length+1) hp wl.1 (QcA ul) (QaR a b c d) g rfl (fun e=>(hx e).2 rfl) hn'
  have e2:(Tr.node p o (.node a b c d) .nil).flat++R=⟨p,o,(Tr.node a b c d).flat.length+Tr.nil.flat.length+1⟩::((Tr.node a b c d).flat++R):=by
   show ⟨p,o,(Tr.node a b c d).flat.length+Tr.nil.flat.length+1⟩::(((Tr.node a b c d).flat++Tr.nil.flat)++R)=_;rw [e]
  rw [e2];exact k
 | .node p o .nil (.node a b c d),R,w,hn,_=>by
  obtain ⟨hp,ul,ur,hx,wl,wr⟩:=w;have hn':((Tr.node a b c d).flat++R).length+1<=1000000:=hn;have l1:(Tr.node a b c d).flat.length<=1000000:=by rw [Qxp] at hn';omega
  have g:=V5 (.node a b c d) [] wr (by rw [Qxo];exact l1) (fun e=>by cases e);rw [Qxo] at g;exact QkK (p:=p) (o:=o) (R:=R) (s:=Tr.nil.flat.length+(Tr.node a b c d).flat.length+1) hp wr.1 (QcA ur) (QaR a b c d) g (by rw [Tr.flat,List.length_nil,Nat.zero_add];rfl) (fun e=>(hx e).1 rfl) hn'
 | .node p o (.node a b c d) (.node a' b' c' d'),R,w,hn,_=>by
  obtain ⟨hp,ul,ur,hx,wl,wr⟩:=w;have hn':(((Tr.node a b c d).flat++(Tr.node a' b' c' d').flat)++R).length+1<=1000000:=hn;have l1:((Tr.node a b c d).flat++(Tr.node a' b' c' d').flat).length<=1000000:=by rw [Qxp] at hn';omega
  have l2:(Tr.node a' b' c' d').flat.length<=1000000:=by rw [Qxp] at l1;omega
  have g0:=V5 (.node a b c d) (Tr.node a' b' c' d').flat wl l1 (fun e=>by cases e);have g1:=V5 (.node a' b' c' d') [] wr (by rw [Qxo];exact l2) (fun e=>by cases e);rw [Qxo] at g1;exact QkL (p:=p) (o:=o) (R:=R) (s:=(Tr.node a b c d).flat.length+(Tr.node a' b' c' d').flat.length+1) hp wl.1 (QcA ul) (QaR a b c d) wr.1 (QcA ur) (QaR a' b' c' d') g0 g1 (by rw [Qxp]) hn'
theorem QiA {T:Tr} (w:T.wf) (hn:T.flat.length<=1000000) (h:T≠.nil):Cf Tryz.prog 102 [] [Qj T.flat] [] (.tup [.rp T.c,Qj [],.b true]):=by
 have g:=V5 T [] w (by rw [Qxo];exact hn) h;rw [Qxo] at g;exact g
theorem QiB  : Cf Tryz.prog 102 [] [Qj []] [] (.tup [.v (.pointer none),.v (.slice none 0 0),.b false]):=by
 refine QJ {} Tryz.func102 Tryz.ntmps102 ?_
 repeat (refine Ob.mk ?_ ?_;focus (first | (exact fun hg=>ZQ hg) | (exact fun hg=>Yz hg) | (intro hg;((simp_all;done)))))
 refine gx2 (Wh (p:=[]) (by decide)) (fun hk=>⟨fun _=>hk,?_⟩)
 repeat (refine Ob.mk ?_ ?_;focus (first | (intro _;exact Qxr _) | (exact fun hg=>ZQ hg) | (exact fun hg=>Yz hg)))
 refine ⟨fun h1=>?_,fun h1=>?_⟩
 ·skip
  (simp only [Int.reduceToNat,UInt8.reduceOfNat] at h1)
  have c1:=h1
  (simp only [bsX] at c1)
  repeat refine o0 ?_
  trivial
 ·skip
  (simp only [Int.reduceToNat,UInt8.reduceOfNat] at h1)
  have c1:=h1
  (simp only [bsX] at c1)
  exact absurd (show true=false from h1) (by decide)
theorem QqH {L R:List Nd} {t:Option (List PV)} (g:Cf Tryz.prog 102 [] [Qj L] [] (.tup [.rp t,Qj R,.b true])):Cf Tryz.prog 59 [] [Qj L] [] (.rp t):=by
 refine Qr {} Tryz.func59 Tryz.ntmps59 ?_;refine clX g ?_
 repeat refine o10 ?_
 trivial
theorem Qb8  : Cf Tryz.prog 59 [] [Qj []] [] (.v (.pointer none)):=by
 refine Qr {} Tryz.func59 Tryz.ntmps59 ?_;refine clX QiB ?_
 repeat refine o51 ?_
 trivial
theorem QmB:∀ {T:Tr},T.wf->T.flat.length<=1000000->Cf Tryz.prog 59 [] [Qj T.flat] [] (.rp T.c)
 | .nil,_,_=>Qb8
 | .node p o l r,w,h=>QqH (QiA w h (fun e=>by cases e))
theorem QgF:∀ {T:Tr} {n:Nd},T.wf->n∈T.flat->n.p.length<=32
 | .nil,n,_,h=>by rw [Tr.flat] at h;cases h
 | .node p o l r,n,w,h=>by
  rw [Tr.flat] at h;rcases List.mem_cons.1 h with rfl | h
  ·exact w.1
  ·rcases List.mem_append.1 h with h | h
   ·exact QgF w.2.2.2.2.1 h
   ·exact QgF w.2.2.2.2.2 h
theorem QqI {T:Tr} (w:T.wf) (i:Nat):(T.flat.getD i default).p.length<=32:=by
 rw [List.getD_eq_getElem?_getD]
 cases h:T.flat[i]? with
 | none=>decide
 | some n=>exact QgF w (List.mem_of_getElem? h)
theorem Qud {L:List Nd} {t:Option (List PV)} (hL:∀ i,(L.getD i default).p.length<=32) (hn:L.length<=1000000) (g:0 < L.length->Cf Tryz.prog 102 [] [Qj L] [] (.tup [.rp t,Qj [],.b true])):Cf Tryz.prog 57 [] [Qj L] [] (.i 0):=by
 refine Qr {} Tryz.func57 Tryz.ntmps57 ?_;refine ⟨Nat,fun i=>⟨[(0,Qj L),(9,Qj L),(10,.i (L.length:Int)),(11,.i (i:Int))],[]⟩,fun i=>i<=L.length,fun i=>L.length - i,0,by omega,?_,fun i hx1=>?_⟩
 ·skip
  repeat refine o10 ?_
  trivial
 refine ⟨fun h1=>?_,fun h1=>?_⟩
 ·skip
  have c1:=h1
  (simp only [bsX] at c1)
  repeat refine o4 ?_
  refine clX (Wh (hL i)) ?_
  repeat refine o0 ?_
  refine ⟨fun h2=>?_,fun h2=>?_⟩
  ·skip
   (simp only [Int.reduceToNat,UInt8.reduceOfNat] at h2)
   have c2:=h2
   (simp only [bsX] at c2)
   exact absurd (show false=true from h2) (by decide)
  ·skip
   (simp only [Int.reduceToNat,UInt8.reduceOfNat] at h2)
   have c2:=h2
   (simp only [bsX] at c2)
   repeat refine o4 ?_
   refine ⟨i+1,(by omega),(by (simp only [SrcE.len,Nat.zero_add,Qxp,Qxw,List.length_nil];omega)),?_⟩
   repeat refine o10 ?_
   trivial
 ·skip
  have c1:=h1
  (simp only [bsX] at c1)
  refine ⟨fun h3=>?_,fun h3=>?_⟩
  ·skip
   have c3:=h3
   (simp only [bsX] at c3)
   repeat refine o0 ?_
   trivial
  ·skip
   have c3:=h3
   (simp only [bsX] at c3)
   have hg:=g (by omega);refine clX hg ?_
   repeat (refine Ob.mk ?_ ?_;focus (first | (exact Qxr _) | (intro _;exact Qxr _) | (intro hg;((intro hq;((simp_all;done)))))))
   refine ⟨fun h4=>?_,fun h4=>?_⟩
   ·skip
    have c4:=h4
    (simp only [bsX] at c4)
    exact absurd (show false=true from h4) (by decide)
   ·skip
    have c4:=h4
    (simp only [bsX] at c4)
    repeat refine o0 ?_
    trivial
theorem QgG {T:Tr} (w:T.wf) (hn:T.flat.length<=1000000):Cf Tryz.prog 57 [] [Qj T.flat] [] (.i 0) :=
 Qud (t:=T.c) (QqI w) hn fun h=>QiA w hn (fun e=>by subst e;rw [Tr.flat] at h;exact absurd h (by decide))
end
section
open Go.RowKit
theorem Qw8 {j:Nat} {L:List (List Bool)} (h:0 < j) (hlt:ltB (L.getD j []) (L.getD (j - 1) [])=true):Qcp j L=Qcp (j - 1) (swp L (j - 1)):=by
 obtain ⟨k,rfl⟩:∃ k,j=k+1:=⟨j - 1,by omega⟩;exact if_pos hlt
theorem Qw9 {j:Nat} {L:List (List Bool)} (h:¬ (0 < j/\ltB (L.getD j []) (L.getD (j - 1) [])=true)):Qcp j L=L:=by
 cases j with
 | zero=>rfl
 | succ k =>
  exact if_neg fun q=>h ⟨Nat.succ_pos k,q⟩
theorem Qnd {p q:List Bool}:QiY p q < 0↔ltB p q=true:=by
 unfold QiY;by_cases h:ltB p q=true
 ·rw [if_pos h];exact ⟨fun _=>h,fun _=>by decide⟩
 ·rw [if_neg h];refine ⟨fun k=>?_,fun k=>absurd k h⟩;split at k <;> omega
theorem Qu9 {L:List (List Bool)} {j:Nat} (h:∀ x∈L,x.length<=32):∀ x∈swp L j,x.length<=32:=fun x hx=>by
 unfold swp at hx;rcases Qxq hx with k | k
 ·rcases Qxq k with k | k
  ·exact h x k
  ·rw [k];exact Xr h _
 ·rw [k];exact Xr h _
theorem Qva {L M:List (List Bool)} {j i m:Nat} {u v:List Bool} {X Y:List EV} (hX:X=[.u32 (adr v),.i (v.length:Int)]) (hY:Y=[.u32 (adr u),.i (u.length:Int)]) (hi:i < L.length) (hj:j < L.length) (hM:M=(L.set i v).set j u):∀ a,a < m -> ∀ b,b < 2->stZ (stZ (fun i j=>Qz (L.getD i []) j) i 0 X) j 0 Y a b=Qz (M.getD a []) b:=by
 intro a ha b hb;have h1:=QgX (m:=m) hX hi (Qxr _) a ha b hb;have h2:=QgX (L:=L.set i v) (m:=m) hY (by rw [List.length_set];exact hj) hM a ha b hb;rw [<- h2];unfold stZ at h1 ⊢;rw [h1]
theorem Qvb {ns:List (List Bool)} (hl:ns.length<=1000) (hb:∀ x∈ns,x.length<=32):Cf Tryz.prog 134 [(0,.rz ns.length 2 (fun i j=>Qz (ns.getD i []) j) 36 0)] [.osl 0 ns.length,.i 0,.i (ns.length:Int),.v (.func (.func 53) #[] #[])] [(0,.rz ns.length 2 (fun i j=>Qz ((WU ns).getD i []) j) 36 0)] (.tup []):=by
 refine QJ {} Tryz.func134 Tryz.ntmps134 ?_
 repeat refine o4 ?_
 refine ⟨Nat,fun k=>⟨[(0,.osl 0 ns.length),(1,.i 0),(2,.i (ns.length:Int)),(3,.v (.func (.func 53) #[] #[])),(8,.i ((k:Int)+1))],[(0,.rz ns.length 2 (fun i j=>Qz ((QbI ns k).getD i []) j) 36 0)]⟩,fun k=>(k=0\/k+1<=ns.length) /\ ∀ x∈QbI ns k,x.length<=32,fun k=>ns.length - k,0,⟨.inl rfl,hb⟩,?_,fun k hx1=>?_⟩
 ·skip
  repeat refine o1 ?_
  trivial
 refine ⟨fun h1=>?_,fun h1=>?_⟩
 ·skip
  have c1:=h1
  (simp only [bsX] at c1)
  have hk:k+1 < ns.length:=by omega
  refine ⟨Nat×List (List Bool),fun s=>⟨[(0,.osl 0 ns.length),(1,.i 0),(2,.i (ns.length:Int)),(3,.v (.func (.func 53) #[] #[])),(8,.i ((k:Int)+1)),(9,.i (s.1:Int))],[(0,.rz ns.length 2 (fun i j=>Qz (s.2.getD i []) j) 36 0)]⟩,fun s=>s.1<=k+1/\s.2.length=ns.length/\Qcp s.1 s.2=QbI ns (k+1) /\ ∀ x∈s.2,x.length<=32,fun s=>s.1,(k+1,QbI ns k),⟨Nat.le_refl _,Qi1 ns k,rfl,hx1.2⟩,?_,fun s hx2=>?_⟩
  ·skip
   repeat refine o1 ?_
   trivial
  refine ⟨[0,0,3,7,15,15,15,111,239,15,15,1039,3599,7695,16383,32767,65535],by kernel_rfl,?_⟩
  repeat refine o37 ?_
  refine gx (fun hc=>(Qrk (p:=s.2.getD s.1 []) (q:=s.2.getD (s.1 - 1) []) (Xr hx2.2.2.2 s.1))) (fun hk=>⟨hk,?_⟩)
  repeat refine o38 ?_
  refine ⟨fun h2=>?_,fun h2=>?_⟩
  ·skip
   have c2:=h2
   (simp only [bsX] at c2)
   have hj:0 < s.1:=by have:=(c2).1;omega
   have hlt:=Qnd.1 (c2).2;have e1:((s.1:Int) - 1).toNat=s.1 - 1:=by omega
   have hM:swp s.2 (s.1 - 1)=(s.2.set s.1 (s.2.getD ((s.1:Int) - 1).toNat [])).set ((s.1:Int) - 1).toNat (s.2.getD s.1 []):=by rw [e1];unfold swp;rw [Nat.sub_add_cancel hj]
   have hnx:s.1 - 1<=k+1/\(swp s.2 (s.1 - 1)).length=ns.length/\Qcp (s.1 - 1) (swp s.2 (s.1 - 1))=QbI ns (k+1) /\ ∀ x∈swp s.2 (s.1 - 1),x.length<=32:=⟨by have:=hx2.1;omega,(QmJ _ _).trans hx2.2.1,(Qw8 hj hlt).symm.trans hx2.2.2.1,Qu9 hx2.2.2.2⟩;have hle:=hx2.1;have hlen:=hx2.2.1;refine ⟨[0,0,0,0,8,0,0,64,224,480,0,0,3072,7168,16355,32739,65535,131071],by kernel_rfl,?_⟩
   repeat refine o4 ?_
   refine Qt (s.1 - 1,swp s.2 (s.1 - 1)) ?_
   repeat (refine Ob.mk ?_ ?_;focus (first | (exact Qva (u:=s.2.getD s.1 []) (v:=s.2.getD ((s.1:Int) - 1).toNat []) rfl rfl (show s.1 < s.2.length by omega) (by omega) hM) | (exact Qxr _) | omega))
   trivial
  ·skip
   have c2:=h2
   (simp only [bsX] at c2)
   have hE:s.2=QbI ns (k+1):=(Qw9 (fun q=>by have h1:=Qnd.2 q.2;have h2:=q.1;omega)).symm.trans hx2.2.2.1;have hnx:(k+1=0\/k+1+1<=ns.length) /\ ∀ x∈QbI ns (k+1),x.length<=32:=⟨by omega,hE ▸ hx2.2.2.2⟩
   repeat refine o4 ?_
   refine Qt (k+1) ?_
   repeat (refine Ob.mk ?_ ?_;focus (first | (exact hE ▸ fun _ _ _ _=>rfl) | (exact Qxr _) | omega))
   trivial
 ·skip
  have c1:=h1
  (simp only [bsX] at c1)
  have hO:=Qq6 (l:=ns) (i:=k+1) (by omega) (by omega) (by omega)
  repeat (refine Ob.mk ?_ ?_;focus (first | (exact hO ▸ fun _ _ _ _=>rfl) | (exact Qxr _) | omega))
  trivial
theorem Qvc {ns:List (List Bool)} {lim:Int} (hl:ns.length<=12) (hb:∀ x∈ns,x.length<=32):Cf Tryz.prog 96 [(0,.rz ns.length 2 (fun i j=>Qz (ns.getD i []) j) 36 0)] [.osl 0 ns.length,.i 0,.i (ns.length:Int),.i lim,.v (.func (.func 53) #[] #[])] [(0,.rz ns.length 2 (fun i j=>Qz ((WU ns).getD i []) j) 36 0)] (.tup []):=by
 refine QJ {} Tryz.func96 Tryz.ntmps96 ?_;refine ⟨Nat,fun k=>⟨[(0,.osl 0 ns.length),(1,.i 0),(2,.i (ns.length:Int)),(4,.v (.func (.func 53) #[] #[]))],[(0,.rz ns.length 2 (fun i j=>Qz (ns.getD i []) j) 36 0)]⟩,fun k=>True,fun k=>0,0,trivial,?_,fun k hx1=>?_⟩
 ·skip
  repeat refine o7 ?_
  trivial
 repeat refine o4 ?_
 refine ⟨fun h1=>?_,fun h1=>?_⟩
 ·skip
  have c1:=h1
  (simp only [bsX] at c1)
  refine clX (Qvb (Nat.le_trans hl (by decide)) hb) ?_
  repeat refine o7 ?_
  trivial
 ·skip
  have c1:=h1
  (simp only [bsX] at c1)
  exact absurd c1 (by omega)
theorem Qvd {c:UInt64}:Cf Tryz.prog 97 [] [.u64 c] [] (.i (Lib.bitLen c.toNat:Int)) :=
 Cf.of (by kernel_rfl) fun w Pub φ vs hp hR=>by
  obtain ⟨u,rfl,h1⟩:=ra1 hR;have e:u=.int .u64 (c.toNat:Int):=by unfold EV.av RA RP at h1;exact h1
  subst e;refine (Tryz.bits_Len (c.toNat:Int) w (by omega) (by have:=c.toNat_lt;omega)).mono ?_;rintro e w' ⟨rfl,rfl⟩;exact ⟨by rw [Int.toNat_natCast],Below.refl _ _⟩
theorem QjI {ns:List (List Bool)} (hl:ns.length<=12) (hb:∀ x∈ns,x.length<=32):Cf Tryz.prog 52 [(0,.rz ns.length 2 (fun i j=>Qz (ns.getD i []) j) 36 0)] [.osl 0 ns.length,.v (.func (.func 53) #[] #[])] [(0,.rz ns.length 2 (fun i j=>Qz ((WU ns).getD i []) j) 36 0)] (.tup []):=by
 refine Qr {} Tryz.func52 Tryz.ntmps52 ?_;refine clX (Qvd (c:=UInt64.ofNat ((ns.length:Int) % 18446744073709551616).toNat)) ?_
 repeat refine o0 ?_
 refine clX (Qvc (lim:=(Lib.bitLen (UInt64.ofNat ((ns.length:Int) % 18446744073709551616).toNat).toNat:Int)) hl hb) ?_
 repeat refine o7 ?_
 trivial
end
end Go.Proofs.YtcebndkiagbddaaGreatDoor
