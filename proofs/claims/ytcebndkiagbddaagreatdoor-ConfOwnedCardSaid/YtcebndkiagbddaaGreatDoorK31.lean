/- A part of the proof: contracts of functions and what they stand on. Written shorter and merged by a program (pack.py). -/
import Derived.Test.YtcebndkiagbddaaGreatDoorK30
import Derived.Test.YtcebndkiagbddaaGreatDoorK29
set_option linter.unusedVariables false
set_option linter.unusedSimpArgs false
set_option maxRecDepth 100000
set_option maxHeartbeats 4000000
open List renaming getD_eq_getElem?_getD -> Qxo, getElem?_eq_getElem -> Qxp, length_map -> Qxr, length_append -> Qxt, mem_map -> Qxu, length_cons -> Qxw
open Eq renaming refl -> Qxq
open Nat renaming le_of_ble_eq_true -> Qxs
namespace Go.Proofs.YtcebndkiagbddaaGreatDoor
section
open Go.RowKit
theorem Qfx {ns:List (List Bool)} (hl:ns.length<=1000000):Cf Tryz.prog 108 [] [Wm ns] [] (Wm ns):=by
 refine Qr {} Tryz.func108 Tryz.ntmps108 ?_;refine fun g1 hg1=>?_;refine ⟨fun h2=>?_,fun h2=>?_⟩
 ·skip
  have c2:=h2
  repeat refine o41 ?_
  trivial
 ·skip
  have c2:=h2
  repeat refine o65 ?_
  trivial
theorem Yf {ns:List (List Bool)} (hl:ns.length<=1000000):Cf Tryz.prog 108 [] [Wm ns] [(60,.rz ns.length 2 (fun i j=>Qz (ns.getD i []) j) 36 0)] (.osl 60 ns.length):=by
 refine Qr {nr:=[(2,36,2)]} Tryz.func108 Tryz.ntmps108 ?_;refine fun g1 hg1=>?_;refine ⟨fun h2=>?_,fun h2=>?_⟩
 ·skip
  have c2:=h2;have hz:=hg1 h2
  repeat (refine Ob.mk ?_ ?_;focus (first | (exact hz.symm) | omega))
  trivial
 ·skip
  have c2:=h2
  repeat (refine Ob.mk ?_ ?_;focus (first | (exact fun _ _ _ _=>rfl) | (exact Qxq _) | omega | (exact Qxs rfl) | (simp only [SrcE.len,Nat.zero_add,Qxt,Qxw,List.length_nil];first | done | omega)))
  trivial
theorem p5 {m:List EV} {g:Nat->EV} (h0:m.getD 0 .any=g 0) (h1:m.getD 1 .any=g 1) (h2:m.getD 2 .any=g 2) (h3:m.getD 3 .any=g 3) (h4:m.getD 4 .any=g 4):∀ j,j < 5->m.getD j .any=g j:=fun j hj=>by
 have:j=0\/j=1\/j=2\/j=3\/j=4:=by omega
 rcases this with rfl | rfl | rfl | rfl | rfl <;> assumption
theorem Qy {c:ConfS} (hl:c.ps.length<=1000) (h8:∀ p∈c.ps,p.ns.length<=1000000):Cf Tryz.prog 64 [] [Qn c] [(60,.rz c.ps.length 5 (fun i j=>Qe (c.ps.getD i Qa) j) 33 0)] (.agg [.s c.k,.i c.port,.osl 60 c.ps.length]):=by
 refine Qr {} Tryz.func64 Tryz.ntmps64 ?_
 repeat refine o4 ?_
 refine ⟨Nat,fun i=>⟨[(1,.own 1001 0),(2,.own 1002 0),(3,.osl 61 i),(11,Ws c.ps),(12,.i (c.ps.length:Int)),(13,.i (i:Int))],[(1001,.box [.s c.k,.i c.port,Ws c.ps] 25),(1002,.box [.s [],.i 0,.nil] 25),(61,.rz i 5 (fun a b=>Qe (c.ps.getD a Qa) b) 33 0)]⟩,fun i=>i<=c.ps.length,fun i=>c.ps.length - i,0,Nat.zero_le _,?_,fun i hx1=>?_⟩
 ·skip
  repeat refine o7 ?_
  trivial
 refine ⟨fun h1=>?_,fun h1=>?_⟩
 ·skip
  have c1:=h1
  (simp only [bsX] at c1)
  have hi:i < c.ps.length:=by omega
  repeat refine o3 ?_
  refine clX (Qfx (ns:=(c.ps.getD i Qa).ns) (h8 _ (Z0 hi))) ?_
  repeat refine o36 ?_
  refine Qt (i+1) ?_
  repeat refine o78 ?_
  trivial
 ·skip
  have c1:=h1
  (simp only [bsX] at c1)
  repeat refine o7 ?_
  trivial
end
section
open Go.RowKit Go.Lib
def prR (acc:List SetS) (i:Nat):List LnP->List SetS×Int×Int
 | []=>(acc,0,0)
 | x::xs=>if (Wv x).2=0 then prR (acc++[(Wv x).1]) (i+1) xs else ([],(i:Int)+1,(Wv x).2)
def Wd (s:List UInt8):List SetS×Int×Int :=
 if (Qm s).2.2=0 then prR [] 0 (Qm s).1 else ([],(Qm s).2.1,(Qm s).2.2)
abbrev rs1 (x:LnP):SetS:=(Wv x).1
abbrev ls1 (x:SetS):LnP:=(Zr x).1
theorem Qw2 {L:List LnP} {i:Nat} (h:i < L.length) (acc:List SetS):prR acc i (L.drop i) =
  if (Wv (L.getD i ([],[]))).2=0 then prR (acc++[rs1 (L.getD i ([],[]))]) (i+1) (L.drop (i+1)) else ([],(i:Int)+1,(Wv (L.getD i ([],[]))).2):=by
 rw [List.drop_eq_getElem_cons h,prR,Qxo,Qxp h];rfl
theorem QbN:∀ (L:List LnP) (acc:List SetS) (i:Nat),
  (prR acc i L=(acc++L.map rs1,0,0) /\ ∀ x∈L,(Wv x).2=0)\/(∃ n e:Int,prR acc i L=([],n,e)/\e≠0/\(i:Int) < n)
 | [],acc,i=>.inl ⟨by simp [prR],fun t h=>by cases h⟩
 | x::xs,acc,i=>by
  unfold prR;by_cases h:(Wv x).2=0
  ·rw [if_pos h];rcases QbN xs (acc++[(Wv x).1]) (i+1) with ⟨e,q⟩ | ⟨n,e,k1,k2,k3⟩
   ·exact .inl ⟨by rw [e];simp,fun y hy=>(List.mem_cons.1 hy).elim (fun e=>e ▸ h) (q y)⟩
   ·exact .inr ⟨n,e,k1,k2,by omega⟩
  ·rw [if_neg h];exact .inr ⟨_,_,rfl,h,by omega⟩
theorem QbO {s:List UInt8} (h:(Qm s).2.2=0):(∀ x∈(Qm s).1,lnC x.1 x.2=0)/\(Qm s).1.length<=60:=by
 unfold Qm at h ⊢;by_cases h1:3000 < s.length
 ·rw [if_pos h1] at h;cases h
 rw [if_neg h1] at h ⊢;by_cases h2:s=[]
 ·rw [if_pos h2];exact ⟨fun x hx=>absurd hx (List.not_mem_nil),by decide⟩
 rw [if_neg h2] at h ⊢;by_cases h3:60 < (spl 10 s).length
 ·rw [if_pos h3] at h;cases h
 rw [if_neg h3] at h ⊢;rcases Jn (spl 10 s) [] 0 with ⟨e,q⟩ | ⟨n,e,k1,k2,k3,k4⟩
 ·rw [e,List.nil_append];refine ⟨fun x hx=>?_,by show ((spl 10 s).map XX).length<=60;rw [Qxr];omega⟩;obtain ⟨t,ht,rfl⟩:=Qxu.1 hx;exact (q t ht).2
 ·rw [k1] at h;exact absurd h k2
def QrY:List SetS->Int
 | []=>0
 | x::xs=>if (Zr x).2=0 then QrY xs else (Zr x).2
def Qeu (L:List SetS):List UInt8×Int:=if QrY L=0 then QiN (L.map ls1) else ([],QrY L)
theorem Qjp {L:List SetS} (h:∀ x∈L,(Zr x).2=0):QrY L=0:=by
 induction L with
 | nil=>rfl
 | cons x xs ih =>
  unfold QrY;rw [if_pos (h x (by simp))];exact ih fun y hy=>h y (List.mem_cons_of_mem _ hy)
theorem QuW {x:LnP} (h:(Wv x).2=0) (hl:x.2.length<=1100000):Qce (rs1 x):=by
 have hr:=J6 x.1 10;by_cases h0:QI x.1 10=0
 ·rw [Qm5 h0] at h;cases h
 have e:=Zo (l:=x) rfl h0
 have:Wv x=(rdk (QI x.1 10) x.2,0):=by
  rw [e] at h ⊢;split at h
  ·rename_i q;rw [if_pos q]
  ·cases h
 show Qce (Wv x).1;rw [this];exact Z2 hl (by omega) hr.2
theorem QrZ {s:List UInt8} (h:(Wd s).2.2=0):Qeu (Wd s).1=(s,0)/\(∀ x∈(Wd s).1,Qce x)/\(Wd s).1.length<=60:=by
 unfold Wd at h ⊢;by_cases h1:(Qm s).2.2=0
 ·rw [if_pos h1] at h ⊢;have hL:=(QbO h1).1;rcases QbN (Qm s).1 [] 0 with ⟨e,q⟩ | ⟨n,e,k1,k2,k3⟩
  ·rw [e,List.nil_append]
   have hm:((Qm s).1.map rs1).map ls1=(Qm s).1:=by
    rw [List.map_map];refine (List.map_congr_left (g:=id) fun x hx=>?_).trans (List.map_id _);exact congrArg Prod.fst (QgT (q x hx)).1
   refine ⟨?_,fun y hy=>?_,by show ((Qm s).1.map rs1).length<=60;rw [Qxr];exact (QbO h1).2⟩
   ·show Qeu ((Qm s).1.map rs1)=_;unfold Qeu
    rw [Qjp fun y hy=>by
     obtain ⟨x,hx,rfl⟩:=Qxu.1 hy
     exact congrArg Prod.snd (QgT (q x hx)).1,if_pos rfl,hm]
    exact (QqU h1).1
   ·obtain ⟨x,hx,rfl⟩:=Qxu.1 hy;exact QuW (q x hx) (by have:=(QkR (hL x hx)).2.2.1;omega)
  ·rw [k1] at h;exact absurd h k2
 ·rw [if_neg h1] at h;exact absurd h h1
theorem QuX {A:Type} (f:A->SetS) (d:A) (L:List A):∀ i,i < L.length -> ∀ j,j < 5->(fun a b=>stc (f (L.getD a d)) b) i j=stF (L.map f) i j:=by
 intro i hi j hj;show stc (f (L.getD i d)) j=stc ((L.map f).getD i QS) j;rw [Qxo,Qxo,List.getElem?_map,Qxp hi];rfl
theorem Qg3 {A:Type} {L:List A} {d:A} {i:Nat} (h:i < L.length):L.getD i d∈L:=by
 rw [Qxo,Qxp h];exact List.getElem_mem h
theorem QoJ {A B:Type} (f:A->B) (d:A) {L:List A} {i:Nat} (h:i < L.length):(L.take (i+1)).map f=(L.take i).map f++[f (L.getD i d)]:=by
 rw [List.take_add_one,Qxp h,List.map_append,Qxo,Qxp h];rfl
theorem QoK {s:List UInt8}:Cf Tryz.prog 72 [] [.s s] [] (.tup [QfG (Wd s).1,.i (Wd s).2.1,.i (Wd s).2.2]):=by
 refine Qr {nl:=[(8,48,5)]} Tryz.func72 Tryz.ntmps72 ?_;refine clX (QkX (s:=s)) ?_
 repeat refine o0 ?_
 refine ⟨fun h1=>?_,fun h1=>?_⟩
 ·skip
  have c1:=h1
  (simp only [bsX] at c1)
  have hz:¬ (Qm s).2.2=0:=by simpa using h1
  have hR:Wd s=([],(Qm s).2.1,(Qm s).2.2):=by unfold Wd;exact if_neg hz
  repeat refine o46 ?_
  trivial
 ·skip
  have c1:=h1
  (simp only [bsX] at c1)
  have hz:(Qm s).2.2=0:=by simpa using h1
  have hS:Wd s=prR [] 0 (Qm s).1:=by unfold Wd;exact if_pos hz
  have hLk:=QbO hz;refine ⟨Nat,fun i=>⟨[(8,.osl 1008 i),(23,Qq5 (Qm s).1),(24,.i ((Qm s).1.length:Int)),(25,.i (i:Int))],[(1008,.rz i 5 (fun a b=>stc (rs1 ((Qm s).1.getD a ([],[]))) b) 48 0)]⟩,fun i=>i<=(Qm s).1.length/\prR (((Qm s).1.take i).map rs1) i ((Qm s).1.drop i)=prR [] 0 (Qm s).1,fun i=>(Qm s).1.length - i,0,⟨Nat.zero_le _,rfl⟩,?_,fun i hx1=>?_⟩
  ·skip
   repeat refine o7 ?_
   trivial
  refine ⟨fun h2=>?_,fun h2=>?_⟩
  ·skip
   have c2:=h2
   (simp only [bsX] at c2)
   have hi:i < (Qm s).1.length:=by omega
   have hL:=Qw2 hi (((Qm s).1.take i).map rs1);rw [hx1.2] at hL;have hv:=(QkR (hLk.1 _ (Qg3 (d:=([],[])) hi))).2.2.1
   repeat refine o3 ?_
   refine clX (QrV (l:=(Qm s).1.getD i ([],[])) (by omega)) ?_
   repeat refine o0 ?_
   refine ⟨fun h3=>?_,fun h3=>?_⟩
   ·skip
    have c3:=h3
    (simp only [bsX] at c3)
    have hm:¬ (Wv ((Qm s).1.getD i ([],[]))).2=0:=by simpa using h3
    rw [if_neg hm] at hL;have hR:=hS.trans hL
    repeat refine o52 ?_
    trivial
   ·skip
    have c3:=h3
    (simp only [bsX] at c3)
    have hm:(Wv ((Qm s).1.getD i ([],[]))).2=0:=by simpa using h3
    rw [if_pos hm,<- QoJ rs1 ([],[]) hi] at hL;have hx:=hL.symm
    repeat refine o23 ?_
    refine ⟨i+1,(by (simp_all;omega)),(by (simp only [SrcE.len,Nat.zero_add,Qxt,Qxw,List.length_nil];omega)),?_⟩
    repeat (refine Ob.mk ?_ ?_;focus (first | (exact Xp (fun _ _ _ _=>rfl) (j5 (Qxq _) (Qxq _) (Qxq _) (Qxq _) (Qxq _))) | (exact Qxq _) | (exact Qxs rfl) | (intro hg;((intro hq;((simp_all;done)))))))
    trivial
  ·skip
   have c2:=h2
   (simp only [bsX] at c2)
   have hi:i=(Qm s).1.length:=by have:=hx1.1;omega
   subst hi;have hR:Wd s=((Qm s).1.map rs1,0,0):=by rw [hS,<- hx1.2,List.take_length,List.drop_length];rfl
   have hml:((Qm s).1.map rs1).length=(Qm s).1.length:=Qxr ..
   repeat (refine Ob.mk ?_ ?_;focus (first | (rw [hR];done) | (rw [hR];exact hml.symm) | (rw [hR];exact QuX rs1 _ _) | (exact Qxq _)))
   trivial
end
section
open Go.RowKit Go.Lib
def s6 (p:PeerS):List SetS:=if p.s=[] then [] else [⟨6,p.s,0,[]⟩]
def s7 (p:PeerS):List SetS:=if p.e=[] then [] else [⟨7,p.e,0,[]⟩]
def s8 (p:PeerS):List SetS:=if 0 < p.a then [⟨8,[],p.a,[]⟩] else []
def n10 (n:List Bool):SetS:=⟨10,[],0,n⟩
def hdP (p:PeerS):List SetS:=⟨4,p.k,0,[]⟩::(s6 p++s7 p++s8 p)
def shP (p:PeerS) (k:Nat):List SetS:=hdP p++(p.ns.take k).map n10
def JN (p:PeerS):List SetS:=shP p p.ns.length
theorem QvE {p:PeerS} (h:¬ p.s=[]):s6 p=[⟨6,p.s,0,[]⟩]:=if_neg h
theorem Qsh {p:PeerS} (h:p.s=[]):s6 p=[]:=if_pos h
theorem Qsi {p:PeerS} (h:¬ p.e=[]):s7 p=[⟨7,p.e,0,[]⟩]:=if_neg h
theorem QvF {p:PeerS} (h:p.e=[]):s7 p=[]:=if_pos h
theorem QvG {p:PeerS} (h:0 < p.a):s8 p=[⟨8,[],p.a,[]⟩]:=if_pos h
theorem Qsj {p:PeerS} (h:¬ 0 < p.a):s8 p=[]:=if_neg h
def c1S (c:ConfS):List SetS:=if c.k=[] then [] else [⟨1,c.k,0,[]⟩]
def c2S (c:ConfS):List SetS:=if 0 < c.port then [⟨2,[],c.port,[]⟩] else []
def allP (c:ConfS) (i:Nat):List SetS:=(c1S c++c2S c)++(c.ps.take i).flatMap JN
def Qu5 (c:ConfS):List SetS:=allP c c.ps.length
theorem Qsk {c:ConfS} (h:¬ c.k=[]):c1S c=[⟨1,c.k,0,[]⟩]:=if_neg h
theorem QvH {c:ConfS} (h:c.k=[]):c1S c=[]:=if_pos h
theorem QvI {c:ConfS} (h:0 < c.port):c2S c=[⟨2,[],c.port,[]⟩]:=if_pos h
theorem Qsl {c:ConfS} (h:¬ 0 < c.port):c2S c=[]:=if_neg h
end
end Go.Proofs.YtcebndkiagbddaaGreatDoor
