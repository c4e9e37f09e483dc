/- A part of the proof: contracts of functions and what they stand on. Written shorter and merged by a program (pack.py). -/
import Derived.Test.YtcebndkiagbddaaGreatDoorK32
import Derived.Test.YtcebndkiagbddaaGreatDoorK31
set_option linter.unusedVariables false
set_option linter.unusedSimpArgs false
set_option maxRecDepth 100000
set_option maxHeartbeats 4000000
open Eq renaming refl -> Qxo
open Nat renaming zero_le -> Qxp
open List renaming length_cons -> Qxw
namespace Go.Proofs.YtcebndkiagbddaaGreatDoor
section
open Tr
def YH:Tr->Nat
 | .nil=>0
 | .node _ o l r=>(if o=[] then 0 else 1)+YH l+YH r
theorem QaT:∀ {T:Tr} {n:List Bool} {o:List UInt8},(W4 T n o).flat.length<=T.flat.length+2
 | .nil,n,o=>by unfold W4;rw [QV];simp [Tr.flat]
 | .node p x l r,n,o=>by
  have a:=QaT (T:=l) (n:=n) (o:=o);have b:=QaT (T:=r) (n:=n) (o:=o);unfold W4;split
  ·rw [QV,QV];omega
  split
  ·cases QB n p.length
   ·show (Tr.node p x (W4 l n o) r).flat.length<=_;rw [QV,QV];omega
   ·show (Tr.node p x l (W4 r n o)).flat.length<=_;rw [QV,QV];omega
  have z:Tr.nil.flat.length=0:=rfl;split
  ·cases QB p n.length
   ·show (Tr.node n o (.node p x l r) .nil).flat.length<=_;rw [QV,z];omega
   ·show (Tr.node n o .nil (.node p x l r)).flat.length<=_;rw [QV,z];omega
  ·cases QB n (Wr p n).length
   ·show (Tr.node (Wr p n) [] (.node n o .nil .nil) (.node p x l r)).flat.length<=_;rw [QV,QV n,z];omega
   ·show (Tr.node (Wr p n) [] (.node p x l r) (.node n o .nil .nil)).flat.length<=_;rw [QV,QV n,z];omega
open Classical in
theorem QaU:∀ {T:Tr} {n:List Bool} {o:List UInt8},T.wf->o≠[]->YH (W4 T n o)=YH T+(if ∃ y,T.has n y then 0 else 1)
 | .nil,n,o,w,ho=>by
  have h:¬ ∃ y,Tr.nil.has n y:=fun ⟨y,h⟩=>h;unfold W4;rw [if_neg h];simp [YH,ho]
 | .node p x l r,n,o,w,ho=>by
  have W:=w;obtain ⟨hp,ul,ur,hx,wl,wr⟩:=w;have a:=QaU (n:=n) (o:=o) wl ho;have b:=QaU (n:=n) (o:=o) wr ho;have nl:∀ {m y},l.has m y->p++[false] <+: m:=fun k=>Zf wl ul k;have nr:∀ {m y},r.has m y->p++[true] <+: m:=fun k=>Zf wr ur k;have hnp:∀ {m y},(Tr.node p x l r).has m y->p <+: m:=fun k=>Zf W (List.prefix_refl p) k;unfold W4;split
  ·rename_i e;subst e
   by_cases h:x=[]
   ·have k:¬ ∃ y,(Tr.node p x l r).has p y:=by
     rintro ⟨y,⟨_,_,k⟩ | k | k⟩
     ·exact k h
     ·exact Xv (nl k) rfl
     ·exact Xv (nr k) rfl
    rw [if_neg k];simp [YH,h,ho];omega
   ·have k:∃ y,(Tr.node p x l r).has p y:=⟨x,.inl ⟨rfl,rfl,h⟩⟩;rw [if_pos k];simp [YH,h,ho]
  rename_i hne
  split
  ·rename_i e
   have b':=Ym e hne;cases hb:QB n p.length <;> rw [hb] at b'
   ·have k:(∃ y,(Tr.node p x l r).has n y)↔∃ y,l.has n y:=by
     constructor
     ·rintro ⟨y,⟨k,_⟩ | k | k⟩
      ·exact absurd k.symm hne
      ·exact ⟨y,k⟩
      ·have:=XV (nr k) b';cases this
     ·rintro ⟨y,k⟩;exact ⟨y,.inr (.inl k)⟩
    simp only [k];show YH (.node p x (W4 l n o) r)=_;simp only [YH,a];omega
   ·have k:(∃ y,(Tr.node p x l r).has n y)↔∃ y,r.has n y:=by
     constructor
     ·rintro ⟨y,⟨k,_⟩ | k | k⟩
      ·exact absurd k.symm hne
      ·have:=XV (nl k) b';cases this
      ·exact ⟨y,k⟩
     ·rintro ⟨y,k⟩;exact ⟨y,.inr (.inr k)⟩
    simp only [k];show YH (.node p x l (W4 r n o))=_;simp only [YH,b];omega
  rename_i h1
  have k:¬ ∃ y,(Tr.node p x l r).has n y:=fun ⟨y,k⟩=>h1 (hnp k);rw [if_neg k];split
  ·cases QB p n.length
   ·show YH (.node n o (.node p x l r) .nil)=_;simp [YH,ho];omega
   ·show YH (.node n o .nil (.node p x l r))=_;simp [YH,ho];omega
  ·cases QB n (Wr p n).length
   ·show YH (.node (Wr p n) [] (.node n o .nil .nil) (.node p x l r))=_;simp [YH,ho];omega
   ·show YH (.node (Wr p n) [] (.node p x l r) (.node n o .nil .nil))=_;simp [YH,ho]
def Qca (k:UInt32×Int) (es:Q7):Option (List UInt8):=(QbY k es).map (·.2)
theorem Yc (k:UInt32×Int) (e) (es:Q7):Qca k (e::es)=if k=e.1 then some e.2 else Qca k es:=by
 unfold Qca;rw [QbY];split
 ·rfl
 ·cases QbY k es <;> rfl
theorem Qfo (k:UInt32×Int) (v:List UInt8):Qar k v []=[(k,v)]:=rfl
theorem J2 (k:UInt32×Int) (v:List UInt8) (e) (es:Q7):Qar k v (e::es)=if k=e.1 then (k,v)::es else e::Qar k v es:=by
 unfold Qar;rw [QbY];by_cases h:k=e.1
 ·rw [if_pos h,if_pos h];rfl
 ·rw [if_neg h,if_neg h];cases QbY k es <;> rfl
theorem Qfp (k k':UInt32×Int) (v:List UInt8):∀ es:Q7,Qca k' (Qar k v es)=if k'=k then some v else Qca k' es
 | []=>by rw [Qfo,Yc]
 | e::es=>by
  have ih:=Qfp k k' v es;rw [J2];by_cases h:k=e.1
  ·rw [if_pos h,Yc,Yc];by_cases h2:k'=k
   ·rw [if_pos h2,if_pos h2]
   ·rw [if_neg h2,if_neg h2,if_neg (by rw [<- h];exact h2)]
  ·rw [if_neg h,Yc,Yc,ih];by_cases h2:k'=e.1
   ·rw [if_pos h2,if_pos h2,if_neg (fun e'=>h (e'.symm.trans h2))]
   ·rw [if_neg h2,if_neg h2]
theorem Qfq (k:UInt32×Int) (v:List UInt8):∀ es:Q7,(Qar k v es).length=es.length+(if (Qca k es).isSome then 0 else 1)
 | []=>rfl
 | e::es=>by
  have ih:=Qfq k v es;rw [J2,Yc];by_cases h:k=e.1
  ·rw [if_pos h,if_pos h];rfl
  ·rw [if_neg h,if_neg h,Qxw,Qxw,ih];omega
abbrev QiI (m:List Bool):UInt32×Int:=(adr m,(m.length:Int))
theorem QqJ {m n:List Bool} (h:m.length<=32) (e:QiI m=QiI n):m=n:=by
 have e1:=congrArg Prod.fst e;have e2:(m.length:Int)=(n.length:Int):=congrArg Prod.snd e;exact QgA (by omega) h e1
structure Rel (T:Tr) (es:Q7):Prop where
 wf:T.wf
 get:∀ m y,m.length<=32->(T.has m y↔Qca (QiI m) es=some y)
 len:YH T=es.length
theorem Rel.nil:Rel .nil []:=⟨trivial,fun m y _=>⟨fun h=>h.elim,fun h=>by cases h⟩,rfl⟩
theorem Rel.put {T:Tr} {es:Q7} (R:Rel T es) {n:List Bool} {o:List UInt8} (hn:n.length<=32) (ho:o≠[]):Rel (W4 T n o) (Qar (QiI n) o es):=by
 refine ⟨Qcz R.wf hn ho,fun m y hm=>?_,?_⟩
 ·rw [QaO R.wf ho,Qfp];by_cases h:m=n
  ·subst h;rw [if_pos rfl];constructor
   ·rintro (⟨_,k⟩ | ⟨k,_⟩)
    ·rw [k]
    ·exact absurd rfl k
   ·intro k;cases k;exact .inl ⟨rfl,rfl⟩
  ·rw [if_neg (fun e=>h (QqJ hm e)),<- R.get m y hm];constructor
   ·rintro (⟨k,_⟩ | ⟨_,k⟩)
    ·exact absurd k h
    ·exact k
   ·intro k;exact .inr ⟨h,k⟩
 ·rw [QaU R.wf ho,Qfq,R.len];congr 1;by_cases h:∃ y,T.has n y
  ·obtain ⟨y,k⟩:=h;rw [if_pos ⟨y,k⟩,(R.get n y hn).1 k];rfl
  ·rw [if_neg h]
   cases hk:Qca (QiI n) es with
   | none=>rfl
   | some y=>exact absurd ⟨y,(R.get n y hn).2 hk⟩ h
abbrev rnet (r:RawS):List Bool:=Qub r.k r.a r.b
abbrev rAt (l:List RawS) (i:Nat):RawS:=l.getD i default
def trL (l:List RawS):Nat->Tr
 | 0=>.nil
 | i+1=>W4 (trL l i) (rnet (rAt l i)) (QgJ (rAt l i).b)
def mpRL (l:List RawS):Nat->Q7
 | 0=>[]
 | i+1=>Qar (QiI (rnet (rAt l i))) (QgJ (rAt l i).b) (mpRL l i)
end
section
open Go.RowKit
def JM (p:PeerS) (i:Nat):Nat->EV
 | 0=>.s p.k
 | 1=>.s p.s
 | 2=>.s p.e
 | 3=>.i p.a
 | _=>.osl i p.ns.length
abbrev rK (m:Nat) (ps:List PeerS) (ns:List Nat):EB:=.ra m 5 (fun a b=>JM (ps.getD a Qa) a b) 33 ns
abbrev bK (c:ConfS) (q m:Nat):EB:=.box [.s c.k,.i c.port,.osl q m] 25
abbrev dK (ps:List PeerS) (a:Nat):EB:=.rz (ps.getD a Qa).ns.length 2 (fun x y=>Qz ((ps.getD a Qa).ns.getD x []) y) 36 0
abbrev nmK:List Nat:=[7000,7001,7002,7003,7004,7005]
theorem QvB {p:PeerS} {a i:Nat} (h:a≠i):∀ b,noL i (JM p a b)
 | 0=>rfl
 | 1=>rfl
 | 2=>rfl
 | 3=>rfl
 | _+4=>h
theorem isL_5 {g:Nat->EV} (h0:Qf4 (g 0)) (h1:Qf4 (g 1)) (h2:Qf4 (g 2)) (h3:Qf4 (g 3)) (h4:Qf4 (g 4)):∀ b,b < 5->Qf4 (g b):=fun j hj=>by
 have:j=0\/j=1\/j=2\/j=3\/j=4:=by omega
 rcases this with rfl | rfl | rfl | rfl | rfl <;> assumption
def knK (c:ConfS) (i a:Nat):Nat:=if a < i then (c.ps.getD a Qa).ns.length else 0
theorem Qeo {c:ConfS} {i a:Nat} (h:a < i):knK c i a=(c.ps.getD a Qa).ns.length:=if_pos h
theorem QbM {c:ConfS} {i a:Nat} (h:¬ a < i):knK c i a=0:=if_neg h
theorem QuN {c:ConfS} (a:Nat):knK c c.ps.length a=(c.ps.getD a Qa).ns.length:=by
 by_cases h:a < c.ps.length
 ·exact if_pos h
 ·rw [QbM h,List.getD_eq_getElem?_getD,List.getElem?_eq_none (by omega)];rfl
theorem QrH {n:Nat} {f g h:Nat->Nat->EV} (h1:∀ a,a < n -> ∀ j,j < 5->f a j=h a j) (h2:∀ j,j < 5->toL n (g 0 j)=h n j):∀ a,a < n+1 -> ∀ j,j < 5->raJ n f g a j=h a j:=fun a ha j hj=>by
 unfold raJ;by_cases e:a < n
 ·rw [show Nat.blt a n=true from Nat.blt_eq.mpr e];exact h1 a e j hj
 ·obtain rfl:a=n:=by omega
  have:Nat.blt a a=false:=by
   cases hb:Nat.blt a a with
   | false=>rfl
   | true=>rw [Nat.blt_eq] at hb;omega
  rw [this];exact h2 j hj
theorem QrI {n:Nat} {g h:Nat->EV} (h0:toL n (g 0)=h 0) (h1:toL n (g 1)=h 1) (h2:toL n (g 2)=h 2) (h3:toL n (g 3)=h 3) (h4:toL n (g 4)=h 4):∀ j,j < 5->toL n (g j)=h j:=fun j hj=>by
 have:j=0\/j=1\/j=2\/j=3\/j=4:=by omega
 rcases this with rfl | rfl | rfl | rfl | rfl <;> assumption
theorem WC {c:ConfS} (hl:c.ps.length<=6) (h8:∀ p∈c.ps,p.ns.length<=1000000):Cf Tryz.prog 64 [] [Qn c] [(60,.ra c.ps.length 5 (fun i j=>JM (c.ps.getD i Qa) i j) 33 [7000,7001,7002,7003,7004,7005]),(7000,.rz ((c.ps.getD 0 Qa).ns.length) 2 ((fun x y=>Qz (((c.ps.getD 0 Qa).ns).getD x []) y)) 36 0),(7001,.rz ((c.ps.getD 1 Qa).ns.length) 2 ((fun x y=>Qz (((c.ps.getD 1 Qa).ns).getD x []) y)) 36 0),(7002,.rz ((c.ps.getD 2 Qa).ns.length) 2 ((fun x y=>Qz (((c.ps.getD 2 Qa).ns).getD x []) y)) 36 0),(7003,.rz ((c.ps.getD 3 Qa).ns.length) 2 ((fun x y=>Qz (((c.ps.getD 3 Qa).ns).getD x []) y)) 36 0),(7004,.rz ((c.ps.getD 4 Qa).ns.length) 2 ((fun x y=>Qz (((c.ps.getD 4 Qa).ns).getD x []) y)) 36 0),(7005,.rz ((c.ps.getD 5 Qa).ns.length) 2 ((fun x y=>Qz (((c.ps.getD 5 Qa).ns).getD x []) y)) 36 0)] (.agg [.s c.k,.i c.port,.osl 60 c.ps.length]):=by
 refine Qr {rk:=[(9,36,2,[7000,7001,7002,7003,7004,7005])]} Tryz.func64 Tryz.ntmps64 ?_
 repeat refine o4 ?_
 refine ⟨Nat,fun i=>⟨[(1,.own 1001 0),(2,.own 1002 0),(3,.osl 61 i),(11,Ws c.ps),(12,.i (c.ps.length:Int)),(13,.i (i:Int))],[(1001,.box [.s c.k,.i c.port,Ws c.ps] 25),(1002,.box [.s [],.i 0,.nil] 25),(61,.ra i 5 (fun a b=>JM (c.ps.getD a Qa) a b) 33 [7000,7001,7002,7003,7004,7005]),(7000,.rz (knK c i 0) 2 ((fun x y=>Qz (((c.ps.getD 0 Qa).ns).getD x []) y)) 36 0),(7001,.rz (knK c i 1) 2 ((fun x y=>Qz (((c.ps.getD 1 Qa).ns).getD x []) y)) 36 0),(7002,.rz (knK c i 2) 2 ((fun x y=>Qz (((c.ps.getD 2 Qa).ns).getD x []) y)) 36 0),(7003,.rz (knK c i 3) 2 ((fun x y=>Qz (((c.ps.getD 3 Qa).ns).getD x []) y)) 36 0),(7004,.rz (knK c i 4) 2 ((fun x y=>Qz (((c.ps.getD 4 Qa).ns).getD x []) y)) 36 0),(7005,.rz (knK c i 5) 2 ((fun x y=>Qz (((c.ps.getD 5 Qa).ns).getD x []) y)) 36 0)]⟩,fun i=>i<=c.ps.length,fun i=>c.ps.length - i,0,Qxp _,?_,fun i hx1=>?_⟩
 ·skip
  repeat (refine Ob.mk ?_ ?_;focus (first | (exact (QbM (by decide)).symm) | (exact Qxo _) | omega | (intro hg;((intro hq;((simp_all;done)))))))
  trivial
 refine ⟨fun h1=>?_,fun h1=>?_⟩
 ·skip
  have c1:=h1
  (simp only [bsX] at c1)
  have hi:i < c.ps.length:=by omega
  rcases (by omega:i=0\/i=1\/i=2\/i=3\/i=4\/i=5) with rfl | rfl | rfl | rfl | rfl | rfl
  ·skip
   repeat refine o3 ?_
   refine clX (Yf (ns:=(c.ps.getD 0 Qa).ns) (h8 _ (Z0 hi))) ?_
   repeat refine o27 ?_
   refine Qt (0+1) ?_
   repeat (refine Ob.mk ?_ ?_;focus (first | (exact (Qeo (by decide)).symm) | (rw [QbM (by decide),QbM (by decide)];done) | (exact QrH (fun _ _ _ _=>rfl) (QrI (Qxo _) (Qxo _) (Qxo _) (Qxo _) (Qxo _))) | (exact Qxo _) | omega | (intro hg;((intro hq;((simp_all;done)))))))
   trivial
  ·skip
   repeat refine o3 ?_
   refine clX (Yf (ns:=(c.ps.getD 1 Qa).ns) (h8 _ (Z0 hi))) ?_
   repeat refine o27 ?_
   refine Qt (1+1) ?_
   repeat refine o49 ?_
   trivial
  ·skip
   repeat refine o3 ?_
   refine clX (Yf (ns:=(c.ps.getD 2 Qa).ns) (h8 _ (Z0 hi))) ?_
   repeat refine o27 ?_
   refine Qt (2+1) ?_
   repeat refine o49 ?_
   trivial
  ·skip
   repeat refine o3 ?_
   refine clX (Yf (ns:=(c.ps.getD 3 Qa).ns) (h8 _ (Z0 hi))) ?_
   repeat refine o27 ?_
   refine Qt (3+1) ?_
   repeat refine o49 ?_
   trivial
  ·skip
   repeat refine o3 ?_
   refine clX (Yf (ns:=(c.ps.getD 4 Qa).ns) (h8 _ (Z0 hi))) ?_
   repeat refine o27 ?_
   refine Qt (4+1) ?_
   repeat refine o49 ?_
   trivial
  ·skip
   repeat refine o3 ?_
   refine clX (Yf (ns:=(c.ps.getD 5 Qa).ns) (h8 _ (Z0 hi))) ?_
   repeat refine o27 ?_
   refine Qt (5+1) ?_
   repeat (refine Ob.mk ?_ ?_;focus (first | (exact Qeo (by decide)) | (exact (Qeo (by decide)).symm) | (exact QrH (fun _ _ _ _=>rfl) (QrI (Qxo _) (Qxo _) (Qxo _) (Qxo _) (Qxo _))) | (exact Qxo _) | omega | (intro hg;((intro hq;((simp_all;done)))))))
   trivial
 ·skip
  have c1:=h1
  (simp only [bsX] at c1)
  have hi:i=c.ps.length:=by omega
  subst hi
  repeat (refine Ob.mk ?_ ?_;focus (first | (exact QuN _) | (exact Qxo _) | omega | (intro hg;((intro hq;((simp_all;done)))))))
  trivial
end
section
open Go.RowKit Go.Lib
theorem Qr0 {s:SetS} (h:Zc s=0) (hp:s.p.length<=32):Qce s:=by
 obtain ⟨h1,h2,ht,hn,hpp,hk,h6,h7,hnn⟩:=Xo h;refine ⟨h1,h2,ht,hn,hpp,?_,hnn,hp⟩
 cases hb:isT s.k with
 | false=>rw [ht hb];exact Qxp _
 | true =>
  rcases QgR.1 hb with e | e | e | e
  ·have:=(XZ (hk (.inl e))).2;omega
  ·have:=(XZ (hk (.inr e))).2;omega
  ·rcases h6 e with k | ⟨_,k⟩
   ·rw [k];exact Qxp _
   ·have:=(XZ k).2;omega
  ·have:=(Qea (h7 e)).2;omega
end
section
open Go.RowKit Go.Lib
def fI (ps:List PeerS) (k:List UInt8):Int:=if Qq ps k < 0 then 0 else Qq ps k
def fE (ps:List PeerS) (k:List UInt8):Int:=if Qq ps k < 0 then 5 else 0
def fP (ps:List PeerS) (k:List UInt8):PeerS:=ps.getD (fI ps k).toNat Qa
def QvJ (p q:PeerS):Bool:=!decide (p.e=[]) && decide (q.e=[])
def k6 (p q:PeerS):List SetS:=if p.s=q.s then [] else [⟨6,q.s,0,[]⟩]
def k7 (p q:PeerS):List SetS:=if p.e=q.e then [] else [⟨7,q.e,0,[]⟩]
def k8 (p q:PeerS):List SetS:=if p.a=q.a then [] else [⟨8,[],q.a,[]⟩]
end
end Go.Proofs.YtcebndkiagbddaaGreatDoor
