/- A part of the proof: contracts of functions and what they stand on. Written shorter and merged by a program (pack.py). -/
import Derived.Test.YtcebndkiagbddaaGreatDoorK48
import Derived.Test.YtcebndkiagbddaaGreatDoorK47
set_option linter.unusedVariables false
set_option linter.unusedSimpArgs false
set_option maxRecDepth 100000
set_option maxHeartbeats 4000000
open List renaming getD_eq_getElem?_getD -> Qxo, getElem?_eq_getElem -> Qxp, mem_cons_self -> Qxq, take_append_drop -> Qxr, flatMap_append -> Qxs, drop_eq_getElem_cons -> Qxt, mem_cons_of_mem -> Qxu, pairwise_append -> Qxv, mem_iff_getElem -> Qxw
namespace Go.Proofs.YtcebndkiagbddaaGreatDoor
section
open Go.RowKit
theorem Qjr {c:ConfS} {at_:List UInt8} {n:List Bool} (ha:at_≠[]) (hi0:0 < c.ps.length) (hk:Qq c.ps at_=((0:Nat):Int)) (hf:¬ Zn c 0 n) (h:ConfOk c) (hs:QT ⟨10,[],0,n⟩) (ho:ConfOk ⟨c.k,c.port,Qh c.ps 0 n⟩):Cf Tryz.prog 26 [] [Qn c,.s at_,Zq ⟨10,[],0,n⟩] [] (.tup [Qn ⟨c.k,c.port,Qh c.ps 0 n⟩,.s at_,.i 0]):=by
 have hpl:=h.pl;have hpo:=ZE h;have hcQ:Q5 c.ps 0 n=0:=if_neg hf;have hmQ:Qg c.ps 0 n=Qh c.ps 0 n:=if_neg hf;have hml:(Qh c.ps 0 n).length=c.ps.length:=by rw [<- hmQ];exact YO
 have hon:=Qev (c:=c) (at_:=at_) (n:=n) hpo ha hi0 hk hs.2;rw [hcQ] at hon;rw [hmQ] at hon;refine Qr {cu:=[8,9]} Tryz.func26 Tryz.ntmps26 ?_;refine clX (Qf h) ?_
 repeat refine o2 ?_
 refine knF ?_;refine clX (QG hs) ?_
 repeat refine o0 ?_
 refine knF ?_;refine clX (WC (c:=c) h.pl (h86 h)) ?_
 repeat refine o2 ?_
 refine ⟨⟨[(1,.s at_),(5,.own 1005 0),(6,.own 1006 0),(11,.own 1011 0)],[(1005,.box [.i 10,.s [],.i 0,.u32 (adr n),.i (n.length:Int)] 48),(1006,.box [.s [],.i 0,.nil] 25),(1011,bK c 61 c.ps.length),(61,rK c.ps.length (c.ps) nmK),(7000,dK (c.ps) 0),(7001,dK (c.ps) 1),(7002,dK (c.ps) 2),(7003,dK (c.ps) 3),(7004,dK (c.ps) 4),(7005,dK (c.ps) 5)]⟩,?_,?_⟩
 ·skip
  repeat refine o1 ?_
  trivial
 refine clX hon ?_
 repeat refine o1 ?_
 refine ⟨⟨[(12,.s at_),(13,.i 0),(6,.own 1006 0),(11,.own 1011 0)],[(1006,.box [.s [],.i 0,.nil] 25),(1011,bK c 61 c.ps.length),(61,rK c.ps.length (Qh c.ps 0 n) [7100,7001,7002,7003,7004,7005]),(7100,dK (Qh c.ps 0 n) 0),(7001,dK (Qh c.ps 0 n) 1),(7002,dK (Qh c.ps 0 n) 2),(7003,dK (Qh c.ps 0 n) 3),(7004,dK (Qh c.ps 0 n) 4),(7005,dK (Qh c.ps 0 n) 5)]⟩,?_,?_⟩
 ·skip
  repeat refine o1 ?_
  trivial
 refine knF ?_;refine clX (Qy (c:=⟨c.k,c.port,Qh c.ps 0 n⟩) (hl3 ho) (h86 ho)) ?_
 repeat refine o32 ?_
 trivial
theorem Qjs {c:ConfS} {at_:List UInt8} {n:List Bool} (ha:at_≠[]) (hi0:0 < c.ps.length) (hk:Qq c.ps at_=((0:Nat):Int)) (hf:Zn c 0 n) (h:ConfOk c) (hs:QT ⟨10,[],0,n⟩):Cf Tryz.prog 26 [] [Qn c,.s at_,Zq ⟨10,[],0,n⟩] [] (.tup [Qn WW,.s [],.i 7]):=by
 have hpl:=h.pl;have hpo:=ZE h;have hcQ:Q5 c.ps 0 n=7:=if_pos hf;have hon:=Qev (c:=c) (at_:=at_) (n:=n) hpo ha hi0 hk hs.2;rw [hcQ] at hon;refine Qr {cu:=[8,9]} Tryz.func26 Tryz.ntmps26 ?_;refine clX (Qf h) ?_
 repeat refine o2 ?_
 refine knF ?_;refine clX (QG hs) ?_
 repeat refine o0 ?_
 refine knF ?_;refine clX (WC (c:=c) h.pl (h86 h)) ?_
 repeat refine o2 ?_
 refine ⟨⟨[(1,.s at_),(5,.own 1005 0),(6,.own 1006 0),(11,.own 1011 0)],[(1005,.box [.i 10,.s [],.i 0,.u32 (adr n),.i (n.length:Int)] 48),(1006,.box [.s [],.i 0,.nil] 25),(1011,bK c 61 c.ps.length),(61,rK c.ps.length (c.ps) nmK),(7000,dK (c.ps) 0),(7001,dK (c.ps) 1),(7002,dK (c.ps) 2),(7003,dK (c.ps) 3),(7004,dK (c.ps) 4),(7005,dK (c.ps) 5)]⟩,?_,?_⟩
 ·skip
  repeat refine o1 ?_
  trivial
 refine clX hon ?_
 repeat refine o1 ?_
 refine ⟨⟨[(13,.i 7),(6,.own 1006 0),(11,.own 1011 0)],[(1006,.box [.s [],.i 0,.nil] 25)]⟩,?_,?_⟩
 ·skip
  repeat refine o0 ?_
  trivial
 refine knT ?_
 repeat refine o0 ?_
 trivial
end
section
open Go.RowKit
theorem Qjv {c:ConfS} {at_:List UInt8} {n:List Bool} (ha:at_≠[]) (hi0:2 < c.ps.length) (hk:Qq c.ps at_=((2:Nat):Int)) (hf:¬ Zn c 2 n) (h:ConfOk c) (hs:QT ⟨10,[],0,n⟩) (ho:ConfOk ⟨c.k,c.port,Qh c.ps 2 n⟩):Cf Tryz.prog 26 [] [Qn c,.s at_,Zq ⟨10,[],0,n⟩] [] (.tup [Qn ⟨c.k,c.port,Qh c.ps 2 n⟩,.s at_,.i 0]):=by
 have hpl:=h.pl;have hpo:=ZE h;have hcQ:Q5 c.ps 2 n=0:=if_neg hf;have hmQ:Qg c.ps 2 n=Qh c.ps 2 n:=if_neg hf;have hml:(Qh c.ps 2 n).length=c.ps.length:=by rw [<- hmQ];exact YO
 have hon:=Qex (c:=c) (at_:=at_) (n:=n) hpo ha hi0 hk hs.2;rw [hcQ] at hon;rw [hmQ] at hon;refine Qr {cu:=[8,9]} Tryz.func26 Tryz.ntmps26 ?_;refine clX (Qf h) ?_
 repeat refine o2 ?_
 refine knF ?_;refine clX (QG hs) ?_
 repeat refine o0 ?_
 refine knF ?_;refine clX (WC (c:=c) h.pl (h86 h)) ?_
 repeat refine o2 ?_
 refine ⟨⟨[(1,.s at_),(5,.own 1005 0),(6,.own 1006 0),(11,.own 1011 0)],[(1005,.box [.i 10,.s [],.i 0,.u32 (adr n),.i (n.length:Int)] 48),(1006,.box [.s [],.i 0,.nil] 25),(1011,bK c 61 c.ps.length),(61,rK c.ps.length (c.ps) nmK),(7000,dK (c.ps) 0),(7001,dK (c.ps) 1),(7002,dK (c.ps) 2),(7003,dK (c.ps) 3),(7004,dK (c.ps) 4),(7005,dK (c.ps) 5)]⟩,?_,?_⟩
 ·skip
  repeat refine o1 ?_
  trivial
 refine clX hon ?_
 repeat refine o1 ?_
 refine ⟨⟨[(12,.s at_),(13,.i 0),(6,.own 1006 0),(11,.own 1011 0)],[(1006,.box [.s [],.i 0,.nil] 25),(1011,bK c 61 c.ps.length),(61,rK c.ps.length (Qh c.ps 2 n) [7000,7001,7100,7003,7004,7005]),(7000,dK (Qh c.ps 2 n) 0),(7001,dK (Qh c.ps 2 n) 1),(7100,dK (Qh c.ps 2 n) 2),(7003,dK (Qh c.ps 2 n) 3),(7004,dK (Qh c.ps 2 n) 4),(7005,dK (Qh c.ps 2 n) 5)]⟩,?_,?_⟩
 ·skip
  repeat refine o1 ?_
  trivial
 refine knF ?_;refine clX (Qy (c:=⟨c.k,c.port,Qh c.ps 2 n⟩) (hl3 ho) (h86 ho)) ?_
 repeat refine o32 ?_
 trivial
theorem Qjw {c:ConfS} {at_:List UInt8} {n:List Bool} (ha:at_≠[]) (hi0:2 < c.ps.length) (hk:Qq c.ps at_=((2:Nat):Int)) (hf:Zn c 2 n) (h:ConfOk c) (hs:QT ⟨10,[],0,n⟩):Cf Tryz.prog 26 [] [Qn c,.s at_,Zq ⟨10,[],0,n⟩] [] (.tup [Qn WW,.s [],.i 7]):=by
 have hpl:=h.pl;have hpo:=ZE h;have hcQ:Q5 c.ps 2 n=7:=if_pos hf;have hon:=Qex (c:=c) (at_:=at_) (n:=n) hpo ha hi0 hk hs.2;rw [hcQ] at hon;refine Qr {cu:=[8,9]} Tryz.func26 Tryz.ntmps26 ?_;refine clX (Qf h) ?_
 repeat refine o2 ?_
 refine knF ?_;refine clX (QG hs) ?_
 repeat refine o0 ?_
 refine knF ?_;refine clX (WC (c:=c) h.pl (h86 h)) ?_
 repeat refine o2 ?_
 refine ⟨⟨[(1,.s at_),(5,.own 1005 0),(6,.own 1006 0),(11,.own 1011 0)],[(1005,.box [.i 10,.s [],.i 0,.u32 (adr n),.i (n.length:Int)] 48),(1006,.box [.s [],.i 0,.nil] 25),(1011,bK c 61 c.ps.length),(61,rK c.ps.length (c.ps) nmK),(7000,dK (c.ps) 0),(7001,dK (c.ps) 1),(7002,dK (c.ps) 2),(7003,dK (c.ps) 3),(7004,dK (c.ps) 4),(7005,dK (c.ps) 5)]⟩,?_,?_⟩
 ·skip
  repeat refine o1 ?_
  trivial
 refine clX hon ?_
 repeat refine o1 ?_
 refine ⟨⟨[(13,.i 7),(6,.own 1006 0),(11,.own 1011 0)],[(1006,.box [.s [],.i 0,.nil] 25)]⟩,?_,?_⟩
 ·skip
  repeat refine o0 ?_
  trivial
 refine knT ?_
 repeat refine o0 ?_
 trivial
end
section
open Go.RowKit
theorem Qjz {c:ConfS} {at_:List UInt8} {n:List Bool} (ha:at_≠[]) (hi0:4 < c.ps.length) (hk:Qq c.ps at_=((4:Nat):Int)) (hf:¬ Zn c 4 n) (h:ConfOk c) (hs:QT ⟨10,[],0,n⟩) (ho:ConfOk ⟨c.k,c.port,Qh c.ps 4 n⟩):Cf Tryz.prog 26 [] [Qn c,.s at_,Zq ⟨10,[],0,n⟩] [] (.tup [Qn ⟨c.k,c.port,Qh c.ps 4 n⟩,.s at_,.i 0]):=by
 have hpl:=h.pl;have hpo:=ZE h;have hcQ:Q5 c.ps 4 n=0:=if_neg hf;have hmQ:Qg c.ps 4 n=Qh c.ps 4 n:=if_neg hf;have hml:(Qh c.ps 4 n).length=c.ps.length:=by rw [<- hmQ];exact YO
 have hon:=Qez (c:=c) (at_:=at_) (n:=n) hpo ha hi0 hk hs.2;rw [hcQ] at hon;rw [hmQ] at hon;refine Qr {cu:=[8,9]} Tryz.func26 Tryz.ntmps26 ?_;refine clX (Qf h) ?_
 repeat refine o2 ?_
 refine knF ?_;refine clX (QG hs) ?_
 repeat refine o0 ?_
 refine knF ?_;refine clX (WC (c:=c) h.pl (h86 h)) ?_
 repeat refine o2 ?_
 refine ⟨⟨[(1,.s at_),(5,.own 1005 0),(6,.own 1006 0),(11,.own 1011 0)],[(1005,.box [.i 10,.s [],.i 0,.u32 (adr n),.i (n.length:Int)] 48),(1006,.box [.s [],.i 0,.nil] 25),(1011,bK c 61 c.ps.length),(61,rK c.ps.length (c.ps) nmK),(7000,dK (c.ps) 0),(7001,dK (c.ps) 1),(7002,dK (c.ps) 2),(7003,dK (c.ps) 3),(7004,dK (c.ps) 4),(7005,dK (c.ps) 5)]⟩,?_,?_⟩
 ·skip
  repeat refine o1 ?_
  trivial
 refine clX hon ?_
 repeat refine o1 ?_
 refine ⟨⟨[(12,.s at_),(13,.i 0),(6,.own 1006 0),(11,.own 1011 0)],[(1006,.box [.s [],.i 0,.nil] 25),(1011,bK c 61 c.ps.length),(61,rK c.ps.length (Qh c.ps 4 n) [7000,7001,7002,7003,7100,7005]),(7000,dK (Qh c.ps 4 n) 0),(7001,dK (Qh c.ps 4 n) 1),(7002,dK (Qh c.ps 4 n) 2),(7003,dK (Qh c.ps 4 n) 3),(7100,dK (Qh c.ps 4 n) 4),(7005,dK (Qh c.ps 4 n) 5)]⟩,?_,?_⟩
 ·skip
  repeat refine o1 ?_
  trivial
 refine knF ?_;refine clX (Qy (c:=⟨c.k,c.port,Qh c.ps 4 n⟩) (hl3 ho) (h86 ho)) ?_
 repeat refine o32 ?_
 trivial
theorem QjA {c:ConfS} {at_:List UInt8} {n:List Bool} (ha:at_≠[]) (hi0:4 < c.ps.length) (hk:Qq c.ps at_=((4:Nat):Int)) (hf:Zn c 4 n) (h:ConfOk c) (hs:QT ⟨10,[],0,n⟩):Cf Tryz.prog 26 [] [Qn c,.s at_,Zq ⟨10,[],0,n⟩] [] (.tup [Qn WW,.s [],.i 7]):=by
 have hpl:=h.pl;have hpo:=ZE h;have hcQ:Q5 c.ps 4 n=7:=if_pos hf;have hon:=Qez (c:=c) (at_:=at_) (n:=n) hpo ha hi0 hk hs.2;rw [hcQ] at hon;refine Qr {cu:=[8,9]} Tryz.func26 Tryz.ntmps26 ?_;refine clX (Qf h) ?_
 repeat refine o2 ?_
 refine knF ?_;refine clX (QG hs) ?_
 repeat refine o0 ?_
 refine knF ?_;refine clX (WC (c:=c) h.pl (h86 h)) ?_
 repeat refine o2 ?_
 refine ⟨⟨[(1,.s at_),(5,.own 1005 0),(6,.own 1006 0),(11,.own 1011 0)],[(1005,.box [.i 10,.s [],.i 0,.u32 (adr n),.i (n.length:Int)] 48),(1006,.box [.s [],.i 0,.nil] 25),(1011,bK c 61 c.ps.length),(61,rK c.ps.length (c.ps) nmK),(7000,dK (c.ps) 0),(7001,dK (c.ps) 1),(7002,dK (c.ps) 2),(7003,dK (c.ps) 3),(7004,dK (c.ps) 4),(7005,dK (c.ps) 5)]⟩,?_,?_⟩
 ·skip
  repeat refine o1 ?_
  trivial
 refine clX hon ?_
 repeat refine o1 ?_
 refine ⟨⟨[(13,.i 7),(6,.own 1006 0),(11,.own 1011 0)],[(1006,.box [.s [],.i 0,.nil] 25)]⟩,?_,?_⟩
 ·skip
  repeat refine o0 ?_
  trivial
 refine knT ?_
 repeat refine o0 ?_
 trivial
end
section
open Go.Lib
theorem Qm8 {s:SetS} {L:List SetS} {c d:ConfS} {a b:List UInt8} (h:WX c a s=(d,b,0)):goS c a (s::L)=goS d b L:=by
 show (if (WX c a s).2.2=0 then goS (WX c a s).1 (WX c a s).2.1 L else none)=_;rw [h];rfl
theorem Sem.congr {c:ConfS} {k:List UInt8} {port:Int} {G G':List UInt8->Option PeerS} (h:Sem c k port G) (e:∀ x,G x=G' x):Sem c k port G':=⟨h.ok,h.k,h.port,fun x=>(h.at_ x).trans (e x)⟩
theorem QcO {G:List UInt8->Option PeerS} {a:List UInt8} {p:PeerS}:Jc G a p a=some p:=if_pos rfl
theorem Qm9 {G:List UInt8->Option PeerS} {a x:List UInt8} {p:PeerS} (h:x≠a):Jc G a p x=G x:=if_neg h
theorem Qg7 {G:List UInt8->Option PeerS} {a:List UInt8} {p:PeerS} (h:G a=some p) (x:List UInt8):G x=Jc G a p x:=by
 unfold Jc;split
 ·next e=>rw [e,h]
 ·rfl
theorem QjF {G:List UInt8->Option PeerS} {a:List UInt8} {p q:PeerS} (x:List UInt8):Jc (Jc G a p) a q x=Jc G a q x:=by
 unfold Jc;split <;> rfl
def J8 (M:List (List Bool)) (q:PeerS):PeerS:=M.foldl (fun q n=>Zd n q) q
theorem Qw5 (M:List (List Bool)):∀ q:PeerS,(J8 M q).k=q.k/\(J8 M q).s=q.s/\(J8 M q).e=q.e/\(J8 M q).a=q.a:=by
 induction M with
 | nil=>intro q;exact ⟨rfl,rfl,rfl,rfl⟩
 | cons n M ih=>intro q;exact ih (Zd n q)
theorem QeG:∀ {M:List (List Bool)} {q:PeerS} {m:List Bool},m∈(J8 M q).ns↔m∈q.ns/\m ∉ M
 | [],q,m=>by simp [J8]
 | n::M,q,m=>by
  show m∈(J8 M (Zd n q)).ns↔_;rw [QeG,Qu2,List.mem_cons,not_or,and_assoc]
theorem Qna {M:List (List Bool)}:∀ {q:PeerS},(∀ n∈M,n ∉ q.ns)->J8 M q=q:=by
 induction M with
 | nil=>intro q _;rfl
 | cons n M ih =>
  intro q h;show J8 M (Zd n q)=q;rw [Qsf (h n (Qxq ..))];exact ih fun m hm=>h m (Qxu _ hm)
theorem Qnb {k:List UInt8} {port:Int} {a:List UInt8} (ha:a≠[]):∀ (M:List (List Bool)) {c:ConfS} {G:List UInt8->Option PeerS} {p:PeerS},Sem c k port G->G a=some p->Y2 (p.ns++M)->p.ns.length+M.length<=8->(∀ n∈M,n.length<=32) ->
  ∃ d,goS c a (M.map n10)=some (d,a)/\Sem d k port fun x=>if x=a then some ⟨p.k,p.s,p.e,p.a,p.ns++M⟩ else (G x).map (J8 M)
 | [],c,G,p,h,hp,_,_,_=>⟨c,rfl,h.congr fun x=>by
  by_cases e:x=a
  ·rw [if_pos e,e,hp,List.append_nil]
  ·rw [if_neg e]
   cases G x <;> rfl⟩
 | n::M,c,G,p,h,hp,hr,hl,hb=>by
  rw [List.length_cons] at hl;have e0:p.ns++n::M=(p.ns++[n])++M:=by simp
  have hlt:∀ m∈p.ns,ltB m n=true:=fun m hm=>(Qxv.1 hr).2.2 m hm n (Qxq ..);have hdl:(QH p.ns n).length<=p.ns.length:=Qg1 _ _;obtain ⟨d,e1,s1⟩:=go_10 (n:=n) h ha hp (hb n (Qxq ..)) (by omega);have p1:=Qu4 hlt;obtain ⟨d2,e2,s2⟩:=Qnb ha M (p:=QjE n p) s1 (if_pos rfl) (by rw [p1];show Y2 ((p.ns++[n])++M);rw [<- e0];exact hr) (by rw [p1,List.length_append,List.length_singleton];omega) (fun m hm=>hb m (Qxu _ hm));refine ⟨d2,?_,s2.congr fun x=>?_⟩
  ·rw [List.map_cons];exact (Qm8 e1).trans e2
  ·by_cases e:x=a
   ·rw [if_pos e,if_pos e,p1,e0]
   ·rw [if_neg e,if_neg e,if_neg e];cases G x <;> rfl
theorem go_f6 {c:ConfS} {k:List UInt8} {port:Int} {G:List UInt8->Option PeerS} {a t:List UInt8} {p:PeerS} {L:List SetS} (h:Sem c k port G) (ha:a≠[]) (hp:G a=some p) (ht:t=[]\/(t≠W5/\ZX t=0)) (hL:(L=[]/\p.s=t)\/L=[⟨6,t,0,[]⟩]) :
  ∃ d,goS c a L=some (d,a)/\Sem d k port (Jc G a ⟨p.k,t,p.e,p.a,p.ns⟩):=by
 rcases hL with ⟨rfl,e⟩ | rfl
 ·exact ⟨c,rfl,h.congr (Qg7 (by rw [<- e];exact hp))⟩
 ·obtain ⟨d,e1,s1⟩:=go_6 h ha hp ht;exact ⟨d,QeF e1,s1⟩
theorem go_f7 {c:ConfS} {k:List UInt8} {port:Int} {G:List UInt8->Option PeerS} {a t:List UInt8} {p:PeerS} {L:List SetS} (h:Sem c k port G) (ha:a≠[]) (hp:G a=some p) (ht:t=[]\/Xx t=0) (hL:(L=[]/\p.e=t)\/L=[⟨7,t,0,[]⟩]) :
  ∃ d,goS c a L=some (d,a)/\Sem d k port (Jc G a ⟨p.k,p.s,t,p.a,p.ns⟩):=by
 rcases hL with ⟨rfl,e⟩ | rfl
 ·exact ⟨c,rfl,h.congr (Qg7 (by rw [<- e];exact hp))⟩
 ·obtain ⟨d,e1,s1⟩:=go_7 h ha hp ht;exact ⟨d,QeF e1,s1⟩
theorem go_f8 {c:ConfS} {k:List UInt8} {port:Int} {G:List UInt8->Option PeerS} {a:List UInt8} {t:Int} {p:PeerS} {L:List SetS} (h:Sem c k port G) (ha:a≠[]) (hp:G a=some p) (ht:0<=t/\t<=65535) (hL:(L=[]/\p.a=t)\/L=[⟨8,[],t,[]⟩]) :
  ∃ d,goS c a L=some (d,a)/\Sem d k port (Jc G a ⟨p.k,p.s,p.e,t,p.ns⟩):=by
 rcases hL with ⟨rfl,e⟩ | rfl
 ·exact ⟨c,rfl,h.congr (Qg7 (by rw [<- e];exact hp))⟩
 ·obtain ⟨d,e1,s1⟩:=go_8 h ha hp ht;exact ⟨d,QeF e1,s1⟩
theorem go_fs {c:ConfS} {k:List UInt8} {port:Int} {G:List UInt8->Option PeerS} {a:List UInt8} {p q:PeerS} {A B C:List SetS} (h:Sem c k port G) (ha:a≠[]) (hp:G a=some p) (hq:PeerOk q)
  (hA:(A=[]/\p.s=q.s)\/A=[⟨6,q.s,0,[]⟩]) (hB:(B=[]/\p.e=q.e)\/B=[⟨7,q.e,0,[]⟩]) (hC:(C=[]/\p.a=q.a)\/C=[⟨8,[],q.a,[]⟩]) :
  ∃ d,goS c a (A++B++C)=some (d,a)/\Sem d k port (Jc G a ⟨p.k,q.s,q.e,q.a,p.ns⟩):=by
 obtain ⟨d1,e1,s1⟩:=go_f6 h ha hp hq.s hA;obtain ⟨d2,e2,s2⟩:=go_f7 (p:=⟨p.k,q.s,p.e,p.a,p.ns⟩) s1 ha QcO hq.e hB;obtain ⟨d3,e3,s3⟩:=go_f8 (p:=⟨p.k,q.s,q.e,p.a,p.ns⟩) s2 ha QcO hq.a hC;refine ⟨d3,?_,s3.congr fun x=>?_⟩
 ·rw [List.append_assoc,J7 e1,J7 e2,e3]
 ·rw [QjF,QjF]
theorem Qw6 {p:PeerS} (h:PeerOk p):p.k≠[]:=fun e=>by
 have:=h.k;rw [e] at this
 revert this;decide
theorem QjG {A:Type} (l:List A):l.take l.length=l:=List.take_length
theorem Qsm {c:ConfS} {k:List UInt8} {port:Int} {G:List UInt8->Option PeerS} {a:List UInt8} {p:PeerS} (h:Sem c k port G) (hp:PeerOk p) (hk:p.k≠k) (hn:G p.k=none) (hl:c.ps.length < 6) :
  ∃ d,goS c a (JN p)=some (d,p.k)/\Sem d k port fun x=>if x=p.k then some p else (G x).map (J8 p.ns):=by
 obtain ⟨d1,e1,s1⟩:=Qw4 (a:=a) h hp.k hk hn hl;have ha:=Qw6 hp;obtain ⟨d2,e2,s2⟩:=go_fs (q:=p) (A:=s6 p) (B:=s7 p) (C:=s8 p) (p:=⟨p.k,[],[],0,[]⟩) s1 ha QcO hp
  (by
    by_cases e:p.s=[]
    ·exact .inl ⟨Qsh e,e.symm⟩
    ·exact .inr (QvE e))
  (by
    by_cases e:p.e=[]
    ·exact .inl ⟨QvF e,e.symm⟩
    ·exact .inr (Qsi e))
  (by
    by_cases e:0 < p.a
    ·exact .inr (QvG e)
    ·exact .inl ⟨Qsj e,(Int.le_antisymm (by omega) hp.a.1).symm⟩)
 obtain ⟨d3,e3,s3⟩:=Qnb ha p.ns (p:=⟨p.k,p.s,p.e,p.a,[]⟩) s2 QcO (by rw [List.nil_append];exact hp.ns) (by simpa using hp.nl) hp.nb;refine ⟨d3,?_,s3.congr fun x=>?_⟩
 ·show goS c a ((⟨4,p.k,0,[]⟩::(s6 p++s7 p++s8 p))++(p.ns.take p.ns.length).map n10)=_;rw [QjG,List.cons_append,Qm8 e1,J7 e2,e3]
 ·by_cases e:x=p.k
  ·rw [if_pos e,if_pos e];rfl
  ·rw [if_neg e,if_neg e,Qm9 e,Qm9 e]
theorem Qnc {ps:List PeerS} (h:(ps.flatMap (·.ns)).Nodup) {i j:Nat} (hi:i < ps.length) (hj:j < ps.length) (hij:i < j):∀ n∈(ps.getD j Qa).ns,n ∉ (ps.getD i Qa).ns:=fun n hn hm=>by
 rw [<- Qxr j ps,Qxs] at h;refine (List.nodup_append.1 h).2.2 n ?_ n ?_ rfl
 ·refine List.mem_flatMap.2 ⟨ps.getD i Qa,?_,hm⟩;rw [Qxo,<- List.getElem?_take_of_lt hij,Qxp (by rw [List.length_take];omega)];exact List.getElem_mem _
 ·refine List.mem_flatMap.2 ⟨ps.getD j Qa,?_,hn⟩;rw [Qxt hj,Qxo,Qxp hj];exact Qxq ..
theorem QjH {ps:List PeerS} (h:(ps.flatMap (·.ns)).Nodup) {p q:PeerS} (hp:p∈ps) (hq:q∈ps) (hk:p≠q):∀ n∈p.ns,n ∉ q.ns:=fun n hn hm=>by
 obtain ⟨i,hi,ei⟩:=Qxw.1 hp;obtain ⟨j,hj,ej⟩:=Qxw.1 hq;have gi:ps.getD i Qa=p:=by rw [Qxo,Qxp hi];exact ei
 have gj:ps.getD j Qa=q:=by rw [Qxo,Qxp hj];exact ej
 rcases Nat.lt_trichotomy i j with k | k | k
 ·exact Qnc h hi hj k n (by rw [gj];exact hm) (by rw [gi];exact hn)
 ·subst k;exact hk (gi.symm.trans gj)
 ·exact Qnc h hj hi k n (by rw [gi];exact hn) (by rw [gj];exact hm)
def Qlz (c:ConfS) (i:Nat):ConfS:=⟨c.k,c.port,c.ps.take i⟩
theorem Qg8 {c:ConfS} (h:ConfOk c) (i:Nat):ConfOk (Qlz c i):=by
 have sl:(c.ps.take i).Sublist c.ps:=List.take_sublist ..;refine ⟨h.k,h.port,Nat.le_trans sl.length_le h.pl,fun q hq=>h.ps q (sl.subset hq),h.inc.sublist sl,?_⟩;have e:=h.nd;rw [<- Qxr i c.ps,Qxs] at e;exact (List.nodup_append.1 e).1
theorem Jz {ps:List PeerS} {i:Nat} (hi:i < ps.length):ps.take (i+1)=ps.take i++[ps.getD i Qa]:=by
 rw [List.take_succ_eq_append_getElem hi,Qxo,Qxp hi];rfl
theorem Qg9 {ps:List PeerS} (h:Z3 ps) {i:Nat} (hi:i < ps.length):∀ p∈ps.take i,p.k≠(ps.getD i Qa).k:=fun p hp e=>by
 have e0:=Qxr i ps;rw [Qxt hi] at e0;rw [<- e0] at h;have:=(Qxv.1 h).2.2 p hp _ (Qxq ..);have g:ps.getD i Qa=ps[i]:=by rw [Qxo,Qxp hi];rfl
 rw [<- g,e] at this;exact ((QfB _ _).2 this).2 rfl
theorem Qsn {c d:ConfS} {a:List UInt8} (hc:ConfOk c) (h:Sem d c.k c.port fun _=>none):∀ i,i<=c.ps.length->∃ b,goS d a ((c.ps.take i).flatMap JN)=some (Qlz c i,b)
 | 0,_=>⟨a,by
  rw [show d=Qlz c 0 from h.eq ⟨Qg8 hc 0,rfl,rfl,fun _=>rfl⟩];rfl⟩
 | i+1,hi=>by
  obtain ⟨b,e⟩:=Qsn (a:=a) hc h i (Nat.le_of_succ_le hi);have hmem:=Zy (ps:=c.ps) (i:=i) hi;obtain ⟨hp,hk⟩:=hc.ps _ hmem;have hpl:=hc.pl;have s0:Sem (Qlz c i) c.k c.port (Wn (c.ps.take i)):=⟨Qg8 hc i,rfl,rfl,fun _=>rfl⟩;obtain ⟨d2,e2,s2⟩:=Qsm (a:=b) s0 hp hk (Jy.2 (Qg9 (Z1.1 hc.inc) hi)) (by show (c.ps.take i).length < 6;rw [List.length_take];omega);refine ⟨(c.ps.getD i Qa).k,?_⟩;rw [Jz hi,Qxs,J7 e];have e3:[c.ps.getD i Qa].flatMap JN=JN (c.ps.getD i Qa):=by simp
  rw [e3,e2]
  have:d2=Qlz c (i+1):=by
   refine s2.eq ⟨Qg8 hc (i+1),rfl,rfl,fun x=>?_⟩;show Wn (c.ps.take (i+1)) x=_;rw [Jz hi,QeB];by_cases ex:x=(c.ps.getD i Qa).k
   ·rw [if_pos ex,ex,Jy.2 (Qg9 (Z1.1 hc.inc) hi),Xz rfl];rfl
   ·rw [if_neg ex,Yy (fun q=>ex q.symm),Qsc,Option.or_none]
    cases q:Wn (c.ps.take i) x with
    | none=>rfl
    | some r =>
     obtain ⟨hr,hrk⟩:=Jb q;show some r=some (J8 _ r);rw [Qna];intro n hn hm;refine QjH hc.nd hmem (List.mem_of_mem_take hr) (fun q=>?_) n hn hm;exact Qg9 (Z1.1 hc.inc) hi r hr (by rw [q])
  rw [this]
theorem QfH:Sem WW [] 0 fun _=>none:=⟨Qer,rfl,rfl,fun _=>rfl⟩
theorem Qo3 {c:ConfS} (h:ConfOk c):Qes WW (Qu5 c)=(c,0,0):=by
 have h1:∃ d b,goS WW [] (c1S c++c2S c)=some (d,b)/\Sem d c.k c.port fun _=>none:=by
  have h1:∃ d b,goS WW [] (c1S c)=some (d,b)/\Sem d c.k 0 fun _=>none:=by
   by_cases e:c.k=[]
   ·rw [QvH e];exact ⟨WW,[],rfl,by rw [e];exact QfH⟩
   ·rw [Qsk e];obtain ⟨d,e1,s1⟩:=go_1 (t:=c.k) (a:=[]) QfH (h.k.resolve_left e) rfl;exact ⟨d,[],QeF e1,s1⟩
  obtain ⟨d,b,e1,s1⟩:=h1;by_cases e:0 < c.port
  ·rw [QvI e];obtain ⟨d2,e2,s2⟩:=go_2 (n:=c.port) (a:=b) s1 h.port;exact ⟨d2,[],by rw [J7 e1];exact QeF e2,s2⟩
  ·rw [Qsl e,List.append_nil];have e0:c.port=0:=Int.le_antisymm (by omega) h.port.1;exact ⟨d,b,e1,by rw [e0];exact s1⟩
 obtain ⟨d,b,e1,s1⟩:=h1;obtain ⟨b2,e2⟩:=Qsn (a:=b) h s1 c.ps.length (Nat.le_refl _);unfold Qes
 have e3:goS WW [] (Qu5 c)=some (c,b2):=by
  show goS WW [] ((c1S c++c2S c)++(c.ps.take c.ps.length).flatMap JN)=_;rw [J7 e1,e2]
  have:Qlz c c.ps.length=c:=by
   unfold Qlz;rw [List.take_length]
  rw [this]
 exact Qsg 0 e3
end
end Go.Proofs.YtcebndkiagbddaaGreatDoor
