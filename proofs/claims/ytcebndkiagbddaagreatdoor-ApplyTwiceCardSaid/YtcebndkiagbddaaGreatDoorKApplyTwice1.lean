/- ApplyTwice: applying a setting twice has the same effect as applying it once: the statement holds of the program, for every input. No further condition. -/
import Derived.Test.YtcebndkiagbddaaGreatDoorTie
import Derived.Test.YtcebndkiagbddaaGreatDoorCards
import Derived.Lay
import Derived.SevenTiedAt
import Derived.MakeChecks
import Derived.Lib.LaidTab
import Derived.Stop.LaidErr
import Derived.Test.YtcebndkiagbddaaGreatDoorKApplyTwice0
set_option linter.unusedVariables false
set_option linter.unusedSimpArgs false
set_option maxRecDepth 100000
set_option maxHeartbeats 4000000
open List renaming getD_eq_getElem?_getD → Qy3, mem_cons_of_mem → Qy4, mem_cons_self → Qy5, take_succ_eq_append_getElem → Qy6, getElem?_eq_getElem → Qy7, mem_cons → Qy8, length_cons → Qy9, mem_append_right → Qza, mem_append_left → Qzb, any_eq_true → Qzc, cons → Qzd, drop_drop → Qze, length_append → Qzf, mem_filter → Qzg, mem_singleton → Qzi, filter_append → Qzj
open Nat renaming zero_le → Qzh, le_refl → Qzl
open Option renaming some → Qzk
namespace Go.Proofs.YtcebndkiagbddaaGreatDoor
section
open Go.Lib
abbrev Qb5:=List (List UInt8×SetS)
def Y0 (a:List UInt8):List SetS→Qb5
 | []=>[]
 | s::L=>(a,s)::Y0 (atN a s) L
abbrev atE (a:List UInt8) (L:List SetS):List UInt8:=L.foldl atN a
theorem Quw (a:List UInt8) (L M:List SetS):Y0 a (L++M)=Y0 a L++Y0 (atE a L) M:=by
 induction L generalizing a with
 | nil=>rfl
 | cons s L ih=>exact congrArg ((a,s) :: ·) (ih (atN a s))
theorem Qux (a:List UInt8) (L:List SetS):(Y0 a L).length=L.length:=by
 induction L generalizing a with
 | nil=>rfl
 | cons s L ih=>exact congrArg (· + 1) (ih (atN a s))
theorem JY:∀ {P Q:Qb5} {a:List UInt8} {L:List SetS},Y0 a L=P++Q→∃ L1 L2,L=L1++L2∧P=Y0 a L1∧Q=Y0 (atE a L1) L2
 | [],Q,a,L,h=>⟨[],L,rfl,rfl,h.symm⟩
 | e::P,Q,a,[],h=>by cases h
 | e::P,Q,a,s::L,h=>by
  have h':(a,s)::Y0 (atN a s) L=e::(P++Q):=h;obtain ⟨L1,L2,e1,e2,e3⟩:=JY (Qzd.inj h').2;exact ⟨s::L1,L2,by rw [e1];rfl,by rw [e2,← (Qzd.inj h').1];rfl,e3⟩
theorem Qma:∀ {L:List SetS} {a:List UInt8},(∀ s∈L,s.k≠4∧s.k≠2)→atE a L=a
 | [],a,_=>rfl
 | s::L,a,h=>by
  obtain ⟨h1,h2⟩:=h s (Qy5 ..);show atE (atN a s) L=a;rw [show atN a s=a by unfold atN;rw [if_neg h1,if_neg h2]];exact Qma fun x hx=>h x (Qy4 _ hx)
section
variable {A X:Type} (c:X→Prop) [DecidablePred c] (v:X→A)
def fif (E:List X) (o:A):A:=E.foldl (fun o x=>if c x then v x else o) o
variable {c v}
theorem QaZ (x:X) (E:List X) (o:A):fif c v (x::E) o=fif c v E (if c x then v x else o):=rfl
theorem Qh3:∀ {E:List X},(∃ x∈E,c x) → ∀ o o':A,fif c v E o=fif c v E o'
 | [],⟨x,hx,_⟩,_,_=>by cases hx
 | y::E,⟨x,hx,hc⟩,o,o'=>by
  rw [QaZ,QaZ];by_cases q:∃ x∈E,c x
  ·exact Qh3 q _ _
  ·have:x=y:=by
    rcases Qy8.1 hx with e | e
    ·exact e
    ·exact absurd ⟨x,e,hc⟩ q
   subst this;rw [if_pos hc,if_pos hc]
theorem Qmb:∀ {E:List X},(∀ x∈E,¬ c x) → ∀ o:A,fif c v E o=o
 | [],_,_=>rfl
 | y::E,h,o=>by
  rw [QaZ,if_neg (h y (Qy5 ..))];exact Qmb (fun x hx=>h x (Qy4 _ hx)) o
theorem Qa0 (E:List X) (o:A):fif c v E (fif c v E o)=fif c v E o:=by
 by_cases q:∃ x∈E,c x
 ·exact Qh3 q _ _
 ·have:∀ x∈E,¬ c x:=fun x hx hc=>q ⟨x,hx,hc⟩;rw [Qmb this]
end
def VK (m:List Bool) (x:List UInt8×SetS) (o:List UInt8→Prop):List UInt8→Prop:=fun p=>if x.2.k=10∧m=x.2.p then p=x.1 else (o p∧¬ (x.2.k=9∧p=x.1))
def YE (m:List Bool):Qb5→(List UInt8→Prop)→List UInt8→Prop
 | [],o=>o
 | x::E,o=>YE m E (VK m x o)
theorem Jw (m:List Bool):∀ (E F:Qb5) (o:List UInt8→Prop),YE m (E++F) o=YE m F (YE m E o)
 | [],F,o=>rfl
 | x::E,F,o=>Jw m E F (VK m x o)
theorem VL (m:List Bool):∀ (E:Qb5) {o o':List UInt8→Prop},(∀ p,o p↔o' p) → ∀ p,YE m E o p↔YE m E o' p
 | [],_,_,h,p=>h p
 | x::E,o,o',h,p=>by
  refine VL m E (fun q=>?_) p;unfold VK;split
  ·exact Iff.rfl
  ·rw [h q]
theorem Qa1 {m:List Bool}:∀ {E:Qb5},(∃ x∈E,x.2.k=10∧m=x.2.p) → ∀ (o o':List UInt8→Prop) (p),YE m E o p↔YE m E o' p
 | [],⟨x,hx,_⟩,_,_,_=>by cases hx
 | y::E,⟨x,hx,hc⟩,o,o',p=>by
  show YE m E (VK m y o) p↔YE m E (VK m y o') p;by_cases q:∃ x∈E,x.2.k=10∧m=x.2.p
  ·exact Qa1 q _ _ _
  ·have:x=y:=by
    rcases Qy8.1 hx with e | e
    ·exact e
    ·exact absurd ⟨x,e,hc⟩ q
   subst this;refine VL m E (fun r=>?_) p;unfold VK;rw [if_pos hc,if_pos hc]
theorem JZ {m:List Bool}:∀ {E:Qb5},(∀ x∈E,¬ (x.2.k=10∧m=x.2.p)) → ∀ (o:List UInt8→Prop) (p),YE m E o p↔(o p ∧ ∀ x∈E,¬ (x.2.k=9∧p=x.1))
 | [],_,o,p=>⟨fun h=>⟨h,fun x hx=>(by cases hx)⟩,fun h=>h.1⟩
 | y::E,h,o,p=>by
  show YE m E (VK m y o) p↔_;rw [JZ (fun x hx=>h x (Qy4 _ hx))];unfold VK;rw [if_neg (h y (Qy5 ..))];constructor
  ·rintro ⟨⟨a,b⟩,d⟩;refine ⟨a,fun x hx=>?_⟩;rcases Qy8.1 hx with rfl | e
   ·exact b
   ·exact d x e
  ·rintro ⟨a,b⟩;exact ⟨⟨a,b y (Qy5 ..)⟩,fun x hx=>b x (Qy4 _ hx)⟩
theorem QnP (m:List Bool) (E:Qb5) (o:List UInt8→Prop) (p:List UInt8):YE m E (YE m E o) p↔YE m E o p:=by
 by_cases q:∃ x∈E,x.2.k=10∧m=x.2.p
 ·exact Qa1 q _ _ _
 ·have h:∀ x∈E,¬ (x.2.k=10∧m=x.2.p):=fun x hx hc=>q ⟨x,hx,hc⟩;rw [JZ h,JZ h];exact ⟨fun r=>r.1,fun r=>⟨r,r.2⟩⟩
theorem Jx {m:List Bool}:∀ {E:Qb5} {o:List UInt8→Prop} {p:List UInt8},YE m E o p→(∃ x∈E,x.2.k=10∧m=x.2.p∧x.1=p)∨(o p ∧ ∀ x∈E,¬ (x.2.k=9∧p=x.1))
 | [],o,p,h=>.inr ⟨h,fun x hx=>(by cases hx)⟩
 | y::E,o,p,h=>by
  rcases Jx (E:=E) (o:=VK m y o) h with ⟨x,hx,e⟩ | ⟨h1,h2⟩
  ·exact .inl ⟨x,Qy4 _ hx,e⟩
  ·unfold VK at h1;by_cases q:y.2.k=10∧m=y.2.p
   ·rw [if_pos q] at h1;exact .inl ⟨y,Qy5 ..,q.1,q.2,h1.symm⟩
   ·rw [if_neg q] at h1;refine .inr ⟨h1.1,fun x hx=>?_⟩;rcases Qy8.1 hx with rfl | e
    ·exact h1.2
    ·exact h2 x e
theorem Qb6 {m:List Bool} {p:List UInt8}:∀ {E:Qb5} {o:List UInt8→Prop},o p→(∀ x∈E,x.2.k=10→x.1=p)→(∀ x∈E,¬ (x.2.k=9∧p=x.1))→YE m E o p
 | [],o,h,_,_=>h
 | y::E,o,h,h1,h2=>by
  refine Qb6 (E:=E) (o:=VK m y o) ?_ (fun x hx=>h1 x (Qy4 _ hx)) (fun x hx=>h2 x (Qy4 _ hx));unfold VK;by_cases q:y.2.k=10∧m=y.2.p
  ·rw [if_pos q];exact (h1 y (Qy5 ..) q.1).symm
  ·rw [if_neg q];exact ⟨h,h2 y (Qy5 ..)⟩
structure FinT (c d:ConfS) (E:Qb5):Prop where
 ok:ConfOk d
 k:d.k=c.k
 port:d.port=fif (fun x:List UInt8×SetS=>x.2.k=2) (fun x=>x.2.n) E c.port
 ex:∀ p,exF d p=fif (fun x:List UInt8×SetS=>x.2.k=4∧x.2.t=p) (fun _=>true) E (exF c p)
 fs:∀ p,(peF d p).s=fif (fun x:List UInt8×SetS=>x.2.k=6∧x.1=p) (fun x=>x.2.t) E (peF c p).s
 fe:∀ p,(peF d p).e=fif (fun x:List UInt8×SetS=>x.2.k=7∧x.1=p) (fun x=>x.2.t) E (peF c p).e
 fa:∀ p,(peF d p).a=fif (fun x:List UInt8×SetS=>x.2.k=8∧x.1=p) (fun x=>x.2.n) E (peF c p).a
 fn:∀ m p,m∈(peF d p).ns↔YE m E (fun q=>m∈(peF c q).ns) p
def QgP (L:List SetS):Prop:=∀ s∈L,Qx s∧Qh2 s.k
theorem Qb7:∀ {L:List SetS} {c d:ConfS} {a b:List UInt8},ConfOk c→QgP L→goS c a L=some (d,b)→FinT c d (Y0 a L)∧b=atE a L
 | [],c,d,a,b,hc,_,h=>by
  have:=Qzk.inj h;obtain rfl:c=d:=congrArg Prod.fst this;obtain rfl:a=b:=congrArg Prod.snd this;exact ⟨⟨hc,rfl,rfl,fun _=>rfl,fun _=>rfl,fun _=>rfl,fun _=>rfl,fun _ _=>Iff.rfl⟩,rfl⟩
 | s::L,c,d,a,b,hc,hL,h=>by
  have h':(if (Qi c a s).2.2=0 then goS (Qi c a s).1 (Qi c a s).2.1 L else none)=some (d,b):=h;by_cases q:(Qi c a s).2.2=0
  ·rw [if_pos q] at h';obtain ⟨h1,h2⟩:=hL s (Qy5 ..);obtain ⟨e1,e2⟩:=QjC hc h1 h2 q;rw [e2] at h';obtain ⟨f,g⟩:=Qb7 e1.ok (fun x hx=>hL x (Qy4 _ hx)) h';refine ⟨⟨f.ok,f.k.trans e1.k,?_,fun p=>?_,fun p=>?_,fun p=>?_,fun p=>?_,fun m p=>?_⟩,g⟩
   ·rw [f.port,e1.port];rfl
   ·rw [f.ex,e1.ex];rfl
   ·rw [f.fs,e1.fs];rfl
   ·rw [f.fe,e1.fe];rfl
   ·rw [f.fa,e1.fa];rfl
   ·rw [f.fn];refine VL m _ (fun r=>?_) p;rw [e1.fn r m];exact Iff.rfl
  ·rw [if_neg q] at h';cases h'
theorem Qpr {c:ConfS} (h:ConfOk c) (p:List UInt8):QM c.ps p=if exF c p=true then some (peF c p) else none:=by
 unfold exF peF;cases QM c.ps p <;> rfl
theorem QjD {c:ConfS} (h:ConfOk c) (p:List UInt8):Yi (peF c p).ns∧(peF c p).ns.length≤8∧(exF c p=true→(peF c p).k=p):=by
 unfold peF exF
 cases g:QM c.ps p with
 | none=>exact ⟨List.Pairwise.nil,Qzh _,fun q=>by cases q⟩
 | some P =>
  obtain ⟨m,e⟩:=Zr g;have k:=(h.ps P m).1;exact ⟨k.ns,k.nl,fun _=>e⟩
theorem Qrh {c y z:ConfS} {E:Qb5} (h1:FinT c y E) (h2:FinT y z E):z=y:=by
 refine Sem.eq (k:=y.k) (port:=y.port) (G:=QM y.ps) ⟨h2.ok,h2.k,?_,fun p=>?_⟩ (Sem.self h1.ok)
 ·rw [h2.port,h1.port,Qa0]
 ·have ex:exF z p=exF y p:=by rw [h2.ex,h1.ex,Qa0]
  rw [Qpr h2.ok,Qpr h1.ok,ex];by_cases q:exF y p=true
  ·rw [if_pos q,if_pos q];obtain ⟨r1,_,k1⟩:=QjD h1.ok p;obtain ⟨r2,_,k2⟩:=QjD h2.ok p;have ek:(peF z p).k=(peF y p).k:=(k2 (ex.trans q)).trans (k1 q).symm;have es:(peF z p).s=(peF y p).s:=by rw [h2.fs,h1.fs,Qa0]
   have ee:(peF z p).e=(peF y p).e:=by rw [h2.fe,h1.fe,Qa0]
   have ea:(peF z p).a=(peF y p).a:=by rw [h2.fa,h1.fa,Qa0]
   have en:(peF z p).ns=(peF y p).ns:=Qc9 r2 r1 fun m=>by
    rw [h2.fn,h1.fn];refine Iff.trans (VL m E (fun r=>h1.fn m r) p) ?_;exact QnP m E _ p
   have:peF z p=peF y p:=by
    cases hz:peF z p with
    | mk a1 a2 a3 a4 a5 =>
     cases hy:peF y p with
     | mk b1 b2 b3 b4 b5 =>
      rw [hz,hy] at ek es ee ea en;simp only at ek es ee ea en;rw [ek,es,ee,ea,en]
   rw [this]
  ·rw [if_neg q,if_neg q]
theorem Quy {A:Type} [DecidableEq A]:∀ {l m:List A},l.Nodup→(∀ x∈l,x∈m)→l.length≤m.length
 | [],m,_,_=>Qzh _
 | x::l,m,h,s=>by
  obtain ⟨h1,h2⟩:=List.nodup_cons.1 h;have hx:=s x (Qy5 ..);have:=Quy (l:=l) (m:=m.erase x) h2 fun y hy=>(List.mem_erase_of_ne (fun e:y=x=>h1 (by rw [← e];exact hy))).2 (s y (Qy4 _ hy));rw [List.length_erase_of_mem hx] at this;have:=List.length_pos_of_mem hx;rw [Qy9];omega
theorem QgQ {A:Type} (P:A→Bool):∀ l:List A,∃ l1 l2,l=l1++l2∧(∀ x∈l2,P x=false)∧(l1=[]∨∃ l0 x,l1=l0++[x]∧P x=true)
 | []=>⟨[],[],rfl,fun x hx=>(by cases hx),.inl rfl⟩
 | y::l=>by
  obtain ⟨l1,l2,e,h1,h2⟩:=QgQ P l;rcases h2 with h2 | ⟨l0,x,h3,h4⟩
  ·cases q:P y with
   | true=>exact ⟨[y],l2,by rw [e,h2];rfl,h1,.inr ⟨[],y,rfl,q⟩⟩
   | false=>exact ⟨[],y::l2,by rw [e,h2];rfl,fun x hx=>by
     rcases Qy8.1 hx with rfl | hx
     ·exact q
     ·exact h1 x hx,.inl rfl⟩
  ·exact ⟨y::l1,l2,by rw [e];rfl,h1,.inr ⟨y::l0,x,by rw [h3];rfl,h4⟩⟩
def paB (p:List UInt8) (x:List UInt8×SetS):Bool:=decide (x.2.k=10) && decide (x.1=p)
theorem paB_T {p:List UInt8} {x:List UInt8×SetS} (h:paB p x=true):x.2.k=10∧x.1=p:=by
 unfold paB at h;simpa using h
theorem Qw5 {l:List (List Bool)} (h:Yi l):l.Nodup:=List.Pairwise.imp (fun k=>Qjd k) h
theorem Qps {P Q:Qb5} {a:List UInt8} {L:List SetS} {z:List UInt8×SetS} (h:Y0 a L=P++z::Q) (hz:z.1≠a):∃ x∈P,x.2.k=4∨x.2.k=2:=by
 obtain ⟨L1,L2,e1,e2,e3⟩:=JY h
 cases L2 with
 | nil=>cases e3
 | cons s L2 =>
  have e4:z=(atE a L1,s):=(Qzd.inj e3).1;apply Classical.byContradiction;intro hn;apply hz;rw [e4];refine Qma fun s hs=>?_
  have hm:∀ (L:List SetS) (a:List UInt8),s∈L→∃ k,(k,s)∈Y0 a L:=by
   intro L
   induction L with
   | nil=>intro a hs;cases hs
   | cons t L ih =>
    intro a hs;rcases Qy8.1 hs with rfl | hs
    ·exact ⟨a,Qy5 ..⟩
    ·obtain ⟨k,hk⟩:=ih (atN a t) hs;exact ⟨k,Qy4 _ hk⟩
  obtain ⟨k,hk⟩:=hm L1 a hs;rw [← e2] at hk;exact ⟨fun q=>hn ⟨_,hk,.inl q⟩,fun q=>hn ⟨_,hk,.inr q⟩⟩
theorem J0 {A:Type} {P:A→Bool} {l:List A} {x:A} (h:x∈l) (hp:P x=true):1≤l.countP P:=List.countP_pos_iff.2 ⟨x,h,hp⟩
theorem QnQ {c y r:ConfS} {x1 x2:List SetS} {s t0:SetS} {M:List SetS} {p:List UInt8} (hx:x1++s::x2=t0::M) (ht0:t0.k=4) (hM:M.length≤8)
  (h3:(peF c p).ns.length≤3) (hs:s.k=10) (hp:atE [] x1=p) (hy:FinT c y (Y0 [] (t0::M))) (hr:FinT y r (Y0 [] x1)) (hw:∀ u v,x1++s::x2=u++v→∃ w,FinT c w (Y0 [] u)):¬ (QI (peF r p).ns s.p).length=8:=by
 have hatn:atN p s=p:=by unfold atN;rw [if_neg (by omega),if_neg (by omega)]
 have hE:Y0 [] (t0::M)=Y0 [] x1++(p,s)::Y0 p x2:=by
  rw [← hx,Quw,hp];show _++(p,s)::Y0 (atN p s) x2=_;rw [hatn]
 have hlen:(Y0 [] (t0::M)).length≤9:=by rw [Qux,Qy9];omega
 rw [hE] at hlen hy;have h0:∃ e0 E0,Y0 [] x1++(p,s)::Y0 p x2=e0::E0∧e0.2.k=4:=⟨([],t0),Y0 (atN [] t0) M,hE.symm,ht0⟩;generalize Y0 [] x1=E1 at hy hr hlen h0 hE;generalize hE2:Y0 p x2=E2 at hy hlen h0 hE
 have hO:∀ m∈QI (peF r p).ns s.p,m≠s.p∧YE m E1 (fun q=>m∈(peF y q).ns) p:=fun m hm=>by
  have hm2:=Qzg.1 hm;exact ⟨by simpa using hm2.2,(hr.fn m p).1 hm2.1⟩
 have hnd:(QI (peF r p).ns s.p).Nodup:=(Qw5 (QjD hr.ok p).1).filter _;have hnn:s.p ∉ QI (peF r p).ns s.p:=fun hm=>(hO _ hm).1 rfl;intro h8
 have hT:∀ (m:List Bool) (E:Qb5),(∃ x∈E,x.2.k=10∧m=x.2.p∧x.1=p)→(∀ x∈E,x∈E1++(p,s)::E2)→m∈((E1++(p,s)::E2).filter (paB p)).map (·.2.p):=by
  rintro m E ⟨x,hx,e1,e2,e3⟩ hE;refine List.mem_map.2 ⟨x,Qzg.2 ⟨hE x hx,?_⟩,e2.symm⟩;unfold paB;simp [e1,e3]
 have sub1:∀ x∈E1,x∈E1++(p,s)::E2:=fun x hx=>Qzb _ hx;have sub2:∀ x∈E1++(p,s)::E2,x∈E1++(p,s)::E2:=fun x hx=>hx;have hn1:s.p∈((E1++(p,s)::E2).filter (paB p)).map (·.2.p):=hT s.p _ ⟨(p,s),by simp,hs,rfl,rfl⟩ sub2;have tl:(((E1++(p,s)::E2).filter (paB p)).map (·.2.p)).length=(E1++(p,s)::E2).countP (paB p):=by rw [List.length_map,List.countP_eq_length_filter]
 have cnt:(E1++(p,s)::E2).countP (paB p)+(E1++(p,s)::E2).countP (fun x=>!paB p x)=(E1++(p,s)::E2).length:=by
  have:=List.length_eq_countP_add_countP (paB p) (l:=E1++(p,s)::E2);rw [this];congr 1;refine List.countP_congr fun x _=>?_;cases paB p x <;> simp
 have lead:∀ x:List UInt8×SetS,x.2.k≠10→(!paB p x)=true:=fun x hx=>by unfold paB;simp [hx]
 have herase:∀ l:List (List Bool),s.p∈l→(∀ m∈QI (peF r p).ns s.p,m∈l)→9≤l.length:=fun l h1 h2=>by
  have:=Quy (l:=s.p::QI (peF r p).ns s.p) (m:=l) (List.nodup_cons.2 ⟨hnn,hnd⟩) fun x hx=>by
   rcases Qy8.1 hx with rfl | hx
   ·exact h1
   ·exact h2 x hx
  rw [Qy9,h8] at this;exact this
 by_cases hk:∃ x∈E1++(p,s)::E2,x.2.k=9∧p=x.1
 ·
  obtain ⟨x,hx,k9,kp⟩:=hk
  have:=herase _ hn1 fun m hm=>by
   rcases Jx (hO m hm).2 with q | ⟨q,_⟩
   ·exact hT m _ q sub1
   ·rcases Jx ((hy.fn m p).1 q) with q | ⟨_,q⟩
    ·exact hT m _ q sub2
    ·exact absurd ⟨k9,kp⟩ (q x hx)
  rw [tl] at this;obtain ⟨e0,E0,f1,f2⟩:=h0;rw [f1] at this cnt hx hlen;have a1:=lead e0 (by omega);have a2:=lead x (by omega)
  have:2≤(e0::E0).countP (fun x=>!paB p x):=by
   rw [List.countP_cons_of_pos (p:=fun x=>!paB p x) a1];rcases Qy8.1 hx with rfl | hx
   ·omega
   ·have:=J0 (P:=fun x=>!paB p x) hx a2;omega
  omega
 have nk:∀ x∈E1++(p,s)::E2,¬ (x.2.k=9∧p=x.1):=fun x hx q=>hk ⟨x,hx,q⟩;by_cases h5:(E1++(p,s)::E2).countP (paB p)≤5
 ·have:=herase ((peF c p).ns++((E1++(p,s)::E2).filter (paB p)).map (·.2.p)) (Qza _ hn1) fun m hm=>by
   rcases Jx (hO m hm).2 with q | ⟨q,_⟩
   ·exact Qza _ (hT m _ q sub1)
   ·rcases Jx ((hy.fn m p).1 q) with q | ⟨q,_⟩
    ·exact Qza _ (hT m _ q sub2)
    ·exact Qzb _ q
  rw [Qzf,tl] at this;omega
 obtain ⟨A,B,eAB,hB,hA⟩:=QgQ (paB p) E2
 have noSteal:∀ x∈A,x.2.k=10→x.1=p:=fun z hz k10=>by
  apply Classical.byContradiction;intro hne;rcases hA with hA | ⟨A0,l,hA,hl⟩
  ·rw [hA] at hz;cases hz
  obtain ⟨l10,lp⟩:=paB_T hl
  have hz0:z∈A0:=by
   rw [hA] at hz;rcases List.mem_append.1 hz with q | q
   ·exact q
   ·rw [Qzi] at q;rw [q] at hne;exact absurd lp hne
  obtain ⟨U,V,eUV⟩:=List.append_of_mem hz0;have ea:Y0 p x2=U++z::(V++l::B):=by rw [hE2,eAB,hA,eUV];simp
  obtain ⟨u,hu,hu2⟩:=Qps ea hne;obtain ⟨L1,L2,g1,g2,g3⟩:=JY ea
  cases L2 with
  | nil=>cases g3
  | cons s2 L2 =>
   have g4:z=(atE p L1,s2):=(Qzd.inj g3).1;have g5:V++l::B=Y0 (atN (atE p L1) s2) L2:=(Qzd.inj g3).2
   have g6:atN (atE p L1) s2=z.1:=by
    rw [g4] at k10 ⊢;have k10':s2.k=10:=k10;unfold atN;rw [if_neg (by omega),if_neg (by omega)]
   rw [g6] at g5;obtain ⟨v,hv,hv2⟩:=Qps g5.symm (by rw [lp];exact fun q=>hne q.symm);obtain ⟨e0,E0,f1,f2⟩:=h0;have c1:1≤U.countP (fun x=>!paB p x):=J0 hu (lead u (by omega));have c2:1≤V.countP (fun x=>!paB p x):=J0 hv (lead v (by omega));have c3:(!paB p z)=true:=by unfold paB;simp [hne]
   have c4:1≤E1.countP (fun x=>!paB p x):=by
    cases E1 with
    | nil =>
     have:(p,s)=e0:=(Qzd.inj f1).1;rw [← this] at f2;have f2':s.k=4:=f2;omega
    | cons e1 E1' =>
     have:e1=e0:=(Qzd.inj f1).1;exact J0 (Qy5 ..) (lead e1 (by rw [this];omega))
   have:4≤(E1++(p,s)::E2).countP (fun x=>!paB p x):=by
    rw [eAB,hA,eUV];simp only [List.countP_append,List.countP_cons,List.append_assoc,List.cons_append];rw [if_pos c3];omega
   omega
 have hEs:E1++(p,s)::E2=(E1++(p,s)::A)++B:=by rw [eAB];simp
 obtain ⟨w,hwf⟩:∃ w,FinT c w (E1++(p,s)::A):=by
  rw [hEs] at hE;obtain ⟨L1,L2,g1,g2,g3⟩:=JY hE;rw [← hx] at g1;obtain ⟨w,hw⟩:=hw L1 L2 g1;rw [← g2] at hw;exact ⟨w,hw⟩
 have memA:∀ x∈(p,s)::A,x∈E1++(p,s)::E2:=fun x hx=>by rw [hEs];exact Qzb _ (Qza _ hx)
 have stay:∀ x∈(p,s)::A,x.2.k=10→x.1=p:=fun x hx k=>by
  rcases Qy8.1 hx with rfl | hx
  ·rfl
  ·exact noSteal x hx k
 have:=herase (peF w p).ns
  (by
   rw [hwf.fn,Jw];show YE s.p A (VK s.p (p,s) _) p;refine Qb6 ?_ (fun x hx=>stay x (Qy4 _ hx)) (fun x hx=>nk x (memA x (Qy4 _ hx)));unfold VK
   rw [if_pos ⟨hs,rfl⟩])
  (fun m hm=>by
   obtain ⟨_,hf⟩:=hO m hm;rw [hwf.fn,Jw];by_cases q:∃ x∈E1,x.2.k=10∧m=x.2.p
   ·refine Qb6 ?_ stay (fun x hx=>nk x (memA x hx));exact (Qa1 q _ _ p).1 hf
   ·have hq:∀ x∈E1,¬ (x.2.k=10∧m=x.2.p):=fun x hx hc=>q ⟨x,hx,hc⟩;have h1:=((JZ hq _ p).1 hf).1;have h2:=(hy.fn m p).1 h1;rw [hEs,Jw] at h2;rcases Jx h2 with ⟨x,hx,e1,e2,e3⟩ | ⟨h3,_⟩
    ·have:=hB x hx;unfold paB at this;simp [e1,e3] at this
    ·rw [Jw] at h3;exact h3)
 have:=(QjD hwf.ok p).2.1;omega
theorem QnR:∀ {L M:List SetS} {c d:ConfS} {a b:List UInt8},goS c a (L++M)=some (d,b)→∃ w e,goS c a L=some (w,e)∧goS w e M=some (d,b)
 | [],M,c,d,a,b,h=>⟨c,a,rfl,h⟩
 | s::L,M,c,d,a,b,h=>by
  have h':(if (Qi c a s).2.2=0 then goS (Qi c a s).1 (Qi c a s).2.1 (L++M) else none)=some (d,b):=h;by_cases q:(Qi c a s).2.2=0
  ·rw [if_pos q] at h';obtain ⟨w,e,h1,h2⟩:=QnR h';refine ⟨w,e,?_,h2⟩;show (if (Qi c a s).2.2=0 then goS (Qi c a s).1 (Qi c a s).2.1 L else none)=_;rw [if_pos q];exact h1
  ·rw [if_neg q] at h';cases h'
theorem Qda {X:Type} {c:X→Prop} [DecidablePred c]:∀ E:List X,fif c (fun _=>true) E true=true
 | []=>rfl
 | x::E=>by
  rw [QaZ];have:(if c x then true else true)=true:=by split <;> rfl
  rw [this];exact Qda E
theorem Qri {w y r:ConfS} {a:List UInt8} {s:SetS} {x2:List SetS} {E1:Qb5} (hw:ConfOk w) (hs:Qx s) (hk:Qh2 s.k) (h:(Qi w a s).2.2=0) (hy:FinT w y (Y0 a (s::x2))) (hr:FinT y r E1)
  (hroom:s.k=10→¬ (QI (peF r a).ns s.p).length=8):(Qi r a s).2.2=0:=by
 obtain ⟨e1,_⟩:=QjC hw hs hk h;have up:∀ q,exF y q=true→exF r q=true:=fun q hq=>by rw [hr.ex,hq];exact Qda _
 have up2:∀ q,exF w q=true→exF y q=true:=fun q hq=>by rw [hy.ex,hq];exact Qda _
 unfold Qh2 at hk;by_cases e2:s.k=2
 ·unfold Qi;rw [if_neg (by omega),if_pos e2]
 by_cases e4:s.k=4
 ·have hx:exF r s.t=true:=up _ (by
   rw [hy.ex];show fif _ _ ((a,s)::Y0 (atN a s) x2) _=true
   rw [QaZ,if_pos ⟨e4,rfl⟩];exact Qda _)
  obtain ⟨P,hP⟩:=Ql9 hx;have hn:¬ Qv r.ps s.t = -1:=fun q=>by rw [Yn.2 q] at hP;cases hP
  have hne:¬ s.t=r.k:=by rw [hr.k,hy.k];exact e1.new e4
  unfold Qi;rw [if_neg (by omega),if_neg (by omega),if_neg (by omega),if_pos e4,if_neg hne,if_pos hn]
 obtain ⟨ha,hx⟩:=e1.at_ (by omega);obtain ⟨P,hP⟩:=Ql9 (up _ (up2 _ hx));obtain ⟨i,hi,ei,_,_,eo⟩:=VW (s:=s) (Sem.self hr.ok) ha hP (by omega);rw [eo];unfold Qes;rw [if_neg (by omega)];by_cases e6:s.k=6
 ·rw [if_pos e6]
 rw [if_neg e6];by_cases e7:s.k=7
 ·rw [if_pos e7]
 rw [if_neg e7];by_cases e8:s.k=8
 ·rw [if_pos e8]
 rw [if_neg e8];by_cases e9:s.k=9
 ·rw [if_pos e9]
 rw [if_neg e9,if_neg];unfold Wn;rw [JT,Jt _ hi,ei];have:=hroom (by omega);rw [QgO hP] at this;exact this
theorem Quz {c y:ConfS} {b:List UInt8} {t0:SetS} {M:List SetS} (hc:ConfOk c) (hL:QgP (t0::M)) (ht0:t0.k=4) (hM:M.length≤8) (h3:∀ p,(peF c p).ns.length≤3) (h:goS c [] (t0::M)=some (y,b)):goS y [] (t0::M)=some (y,b):=by
 obtain ⟨fy,eb⟩:=Qb7 hc hL h
 have key:∀ (n:Nat),n≤(t0::M).length→∃ r,goS y [] ((t0::M).take n)=some (r,atE [] ((t0::M).take n)):=by
  intro n
  induction n with
  | zero=>intro _;exact ⟨y,rfl⟩
  | succ n ih =>
   intro hn;obtain ⟨r,hr⟩:=ih (Nat.le_of_succ_le hn);have e0:(t0::M).take (n+1)=(t0::M).take n++[(t0::M)[n]]:=Qy6 hn;have e3:(t0::M).take n++(t0::M)[n]::(t0::M).drop (n+1)=t0::M:=by rw [← List.drop_eq_getElem_cons hn,List.take_append_drop]
   have hsm:(t0::M)[n]∈t0::M:=List.getElem_mem hn;have hLt:QgP ((t0::M).take n):=fun x hx=>hL x (List.mem_of_mem_take hx);generalize (t0::M)[n]=s at e0 e3 hsm;generalize (t0::M).drop (n+1)=x2 at e3;obtain ⟨fr,_⟩:=Qb7 fy.ok hLt hr;have h1:=h;rw [← e3] at h1;obtain ⟨w,e,g1,g2⟩:=QnR h1;obtain ⟨fw,ew⟩:=Qb7 hc hLt g1;have hL2:QgP (s::x2):=fun x hx=>hL x (by rw [← e3];exact Qza _ hx);obtain ⟨fy2,_⟩:=Qb7 fw.ok hL2 g2
   have ok1:(Qi w e s).2.2=0:=by
    have h':(if (Qi w e s).2.2=0 then goS (Qi w e s).1 (Qi w e s).2.1 x2 else none)=some (y,b):=g2;apply Classical.byContradiction;intro q;rw [if_neg q] at h';cases h'
   obtain ⟨s1,s2⟩:=hL s hsm
   have ok2:=Qri fw.ok s1 s2 ok1 fy2 fr fun k10=>by
    refine QnQ (x1:=(t0::M).take n) (x2:=x2) e3 ht0 hM (h3 e) k10 ew.symm fy fr fun u v huv=>?_;have h2:=h;rw [← e3,huv] at h2;obtain ⟨w2,e2,g3,_⟩:=QnR h2;refine ⟨w2,(Qb7 hc (fun x hx=>hL x ?_) g3).1⟩;rw [← e3,huv];exact Qzb _ hx
   rw [← ew] at hr;refine ⟨(Qi r e s).1,?_⟩;rw [e0,Xj hr];obtain ⟨_,en⟩:=QjC fr.ok s1 s2 ok2;show (if (Qi r e s).2.2=0 then goS (Qi r e s).1 (Qi r e s).2.1 [] else none)=_;rw [if_pos ok2,en];show some (_,atN e s)=some (_,atE [] ((t0::M).take n++[s]));rw [show atE [] ((t0::M).take n++[s])=atN (atE [] ((t0::M).take n)) s from by unfold atE;rw [List.foldl_append];rfl,← ew]
 obtain ⟨z,hz⟩:=key _ (Qzl _);rw [List.take_length] at hz;obtain ⟨fz,_⟩:=Qb7 fy.ok hL hz;rw [hz,Qrh fy fz,eb]
end
section
open Go.Lib
theorem Vl (l:List RawS):∀ i,∀ p∈(QZ l i).2,p.ns.length≤3
 | 0,p,h=>by cases h
 | i+1,p,h=>by
  have c3:Yw (rA l (i+1))≤3:=by
   have h2:=QW (rA l (i+1)).k (m:=4) (by decide);unfold Yw;omega
  unfold QZ at h;split at h
  ·rcases List.mem_append.1 h with h | h
   ·exact Vl l i p h
   ·rw [Qzi] at h;subst h;show (Zp (XT (rA l (i+1)) (QZ l i).1 (Yw (rA l (i+1))))).length≤3;rw [Xf];exact Nat.le_trans (Xy _ _ _) c3
  ·exact Vl l i p h
theorem Qut (l:List RawS):∀ p∈(Yj l).ps,p.ns.length≤3:=Vl l _
end
section
open Go.RowKit Go.Lib
def WO (s:SetS):Bool:=(decide (s.k=5) || decide (s.k=3)) || decide (s.k=1)
def Wl (L:List SetS):List SetS:=L.filter fun s=>!WO s
structure DelT (ns:List SetS) (k:Nat) (L:List SetS):Prop where
 le:k≤ns.length
 len:L.length=ns.length
 tk:L.take (Wl (ns.take k)).length=Wl (ns.take k)
 dr:L.drop k=ns.drop k
 lt:(Wl (ns.take k)).length < k
section
variable {ns:List SetS} {k:Nat} {L:List SetS}
theorem Qw6 {l m:List SetS} {k i:Nat} (h:l.drop k=m.drop k) (hi:k≤i):l.getD i Qm=m.getD i Qm:=by
 have e:∀ l:List SetS,(l.drop k).getD (i - k) Qm=l.getD i Qm:=fun l=>by
  rw [Qy3,Qy3,List.getElem?_drop,show k+(i - k)=i from by omega]
 rw [← e l,← e m,h]
theorem QjE (hk:k < ns.length) (h:WO (ns.getD k Qm)=false):Wl (ns.take (k+1))=Wl (ns.take k)++[ns.getD k Qm]:=by
 rw [Qy3,Qy7 hk] at h ⊢;unfold Wl;rw [Qy6 hk,Qzj];congr 1;have h':WO ns[k]=false:=h;simp [h']
theorem QeW (hk:k < ns.length) (h:WO (ns.getD k Qm)=true):Wl (ns.take (k+1))=Wl (ns.take k):=by
 rw [Qy3,Qy7 hk] at h;unfold Wl;rw [Qy6 hk,Qzj]
 have e:List.filter (fun s=>!WO s) [ns[k]]=[]:=by
  have:WO ns[k]=true:=h;simp [this]
 rw [e,List.append_nil]
theorem DelT.ne (h:DelT ns k L) (hk:k < ns.length) (e:WO (ns.getD k Qm)=false):DelT ns (k+1) (L.set (Wl (ns.take k)).length (ns.getD k Qm)):=by
 have h1:=h.lt;have h2:=h.len;have hs:=QjE hk e;have hl:(Wl (ns.take (k+1))).length=(Wl (ns.take k)).length+1:=by rw [hs];simp
 refine ⟨hk,by rw [List.length_set];exact h2,?_,?_,by omega⟩
 ·rw [hl,hs,Qy6 (by rw [List.length_set];omega),List.take_set_of_le (Qzl _),h.tk];simp
 ·rw [List.drop_set_of_lt (by omega)];have:=congrArg (List.drop 1) h.dr;rw [Qze,Qze] at this;exact this
theorem DelT.eq (h:DelT ns k L) (hk:k < ns.length) (e:WO (ns.getD k Qm)=true):DelT ns (k+1) L:=by
 have h1:=h.lt;rw [← QeW hk e] at h1;refine ⟨hk,h.len,by rw [QeW hk e];exact h.tk,?_,by omega⟩;have:=congrArg (List.drop 1) h.dr;rw [Qze,Qze] at this;exact this
theorem DelT.fin (h:DelT ns k L) (hk:k=ns.length):Wl (ns.take k)=Wl ns ∧ ∀ i,i < (Wl ns).length→L.getD i Qm=(Wl ns).getD i Qm:=by
 subst hk;have h3:=h.tk;rw [List.take_length] at h3 ⊢;refine ⟨rfl,fun i hi=>?_⟩;have:=congrArg (fun l=>l.getD i Qm) h3;simp only [Qy3,List.getElem?_take,if_pos hi] at this;rw [Qy3,this,Qy3]
end
theorem Qmc {ns:List SetS}:∀ k,k≤ns.length→(∀ i,i < k→WO (ns.getD i Qm)=false)→Wl (ns.take k)=ns.take k
 | 0,_,_=>rfl
 | k+1,hk,h=>by
  rw [QjE (by omega) (h k (by omega)),Qmc k (by omega) fun i hi=>h i (by omega),Qy6 (by omega),Qy3,Qy7 (by omega)];rfl
def QgR (L:List SetS):Int:=if L.any WO=true then (L.findIdx WO:Int) else -1
theorem Qw7 {L:List SetS} {i:Nat} (hi:i < L.length) (hb:∀ j,j < i→WO (L.getD j Qm)=false) (h:WO (L.getD i Qm)=true):QgR L=(i:Int):=by
 have g:∀ j (hj:j < L.length),L.getD j Qm=L[j]:=fun j hj=>by rw [Qy3,Qy7 hj];rfl
 have hm:L.any WO=true:=Qzc.2 ⟨L[i],List.getElem_mem hi,by rw [← g i hi];exact h⟩;unfold QgR;rw [if_pos hm]
 have e:L.findIdx WO=i:=by
  rw [List.findIdx_eq hi];refine ⟨by rw [← g i hi];exact h,fun j hj=>?_⟩;have:=hb j hj;rw [g j (by omega)] at this;exact this
 rw [e]
theorem Qw8 {L:List SetS} (hb:∀ j,j < L.length→WO (L.getD j Qm)=false):QgR L = -1:=by
 unfold QgR;rw [if_neg];intro h;obtain ⟨s,hs,e⟩:=Qzc.1 h;obtain ⟨i,hi,e2⟩:=List.mem_iff_getElem.1 hs;have:=hb i hi;rw [Qy3,Qy7 hi] at this;have h2:WO L[i]=false:=this;rw [e2,e] at h2;cases h2
theorem QuA {L:List SetS} {i:Nat} (h:QgR L=(i:Int)):i < L.length∧WO (L.getD i Qm)=true ∧ ∀ j,j < i→WO (L.getD j Qm)=false:=by
 unfold QgR at h;by_cases hm:L.any WO=true
 ·rw [if_pos hm] at h
  have h1:L.findIdx WO < L.length:=List.findIdx_lt_length_of_exists (by
   obtain ⟨s,hs,e⟩:=Qzc.1 hm
   exact ⟨s,hs,e⟩)
  obtain rfl:L.findIdx WO=i:=by omega
  have g:∀ j (hj:j < L.length),L.getD j Qm=L[j]:=fun j hj=>by rw [Qy3,Qy7 hj];rfl
  refine ⟨h1,by rw [g _ h1];exact List.findIdx_getElem,fun j hj=>?_⟩;rw [g j (by omega)];simpa using List.not_of_lt_findIdx hj
 ·rw [if_neg hm] at h;omega
theorem Qw9 {L M:List SetS} {i m:Nat} {v:SetS} {X:List EV} (hX:X=[stw v 0,stw v 1,stw v 2,stw v 3,stw v 4]) (hi:i < L.length) (hM:M=L.set i v):∀ a,a < m → ∀ b,b < 5→stZ (stW L) i 0 X a b=stW M a b:=by
 intro a _ b hb;subst hX hM;unfold stZ;show _=stw ((L.set i v).getD a Qm) b;rw [Qy3 (l:=L.set i v)];by_cases e:a=i
 ·subst e;rw [List.getElem?_set_self hi];have hq:b=0∨b=1∨b=2∨b=3∨b=4:=by omega
  have hbb:Nat.beq a a=true:=by simp
  rw [hbb];rcases hq with rfl | rfl | rfl | rfl | rfl <;> rfl
 ·have:Nat.beq a i=false:=by
   cases q:Nat.beq a i with
   | false=>rfl
   | true=>exact absurd (Nat.eq_of_beq_eq_true q) e
  rw [this,List.getElem?_set_ne (Ne.symm e)];show stw (L.getD a Qm) b=_;rw [Qy3]
theorem Qpt {s:SetS}:Cf Tryz.prog 33 [] [.agg [stw s 0,stw s 1,stw s 2,stw s 3,stw s 4]] [] (.b (WO s)):=by
 refine Qs {} Tryz.func33 Tryz.ntmps33 ?_
 repeat (refine Ob.mk ?_ ?_;focus (first | (unfold WO;simp [or_assoc];done) | (exact fun hg=>X6 hg) | (exact fun hg=>hg)))
 trivial
theorem QuB {L:List SetS} (hl:L.length≤1000):Cf Tryz.prog 77 [(0,.rz L.length 5 (stW L) 48 0)] [.osl 0 L.length,.v (.func (.func 33) #[] #[])] [(0,.rz L.length 5 (stW L) 48 0)] (.i (QgR L)):=by
 refine Qs {} Tryz.func77 Tryz.ntmps77 ?_;refine ⟨Nat,fun i=>⟨[(0,.osl 0 L.length),(1,.v (.func (.func 33) #[] #[])),(7,.i (L.length:Int)),(8,.i (i:Int))],[(0,.rz L.length 5 (stW L) 48 0)]⟩,fun i=>i≤L.length ∧ ∀ j,j < i→WO (L.getD j Qm)=false,fun i=>L.length - i,0,⟨Qzh _,fun i hi=>absurd hi (Nat.not_lt_zero _)⟩,?_,fun i hx1=>?_⟩
 ·skip
  repeat refine o11 ?_
  trivial
 refine ⟨fun h1=>?_,fun h1=>?_⟩
 ·skip
  have c1:=h1
  (simp only [bsX] at c1)
  have hk:i < L.length:=by omega
  repeat refine o4 ?_
  refine clX (Qpt (s:=L.getD i Qm)) ?_
  repeat refine o0 ?_
  refine ⟨fun h2=>?_,fun h2=>?_⟩
  ·skip
   have c2:=h2;have hO:=Qw7 hk hx1.2 h2
   repeat refine o28 ?_
   trivial
  ·skip
   have c2:=h2;have hO:=h2
   repeat refine o3 ?_
   have hnx:i+1≤L.length ∧ ∀ j,j < i+1→WO (L.getD j Qm)=false:=⟨hk,fun j hj=>(Nat.lt_or_ge j i).elim (hx1.2 j) fun q=>by rw [show j=i from by omega];exact hO⟩;refine Ql (i+1) ?_
   repeat refine o11 ?_
   trivial
 ·skip
  have c1:=h1
  (simp only [bsX] at c1)
  have hO:=Qw8 (L:=L) fun j hj=>hx1.2 j (by omega)
  repeat refine o28 ?_
  trivial
theorem Qh4 {L:List SetS} {i:Int} (hl:L.length≤1000) (h:QgR L=i):Cf Tryz.prog 77 [(0,.rz L.length 5 (stW L) 48 0)] [.osl 0 L.length,.v (.func (.func 33) #[] #[])] [(0,.rz L.length 5 (stW L) 48 0)] (.i i):=h ▸ QuB hl
theorem Qrj {L:List SetS} (hl:L.length≤1000) (hI:QgR L = -1):Cf Tryz.prog 32 [(0,.rz L.length 5 (stW L) 48 0)] [.osl 0 L.length,.v (.func (.func 33) #[] #[])] [(0,.rz L.length 5 (stW L) 48 0)] (.osl 0 L.length):=by
 refine Qs {} Tryz.func32 Tryz.ntmps32 ?_;refine clX (Qh4 hl hI) ?_
 repeat refine o11 ?_
 refine ⟨fun h1=>?_,fun h1=>?_⟩
 ·skip
  (simp only [Int.reduceToNat,UInt8.reduceOfNat] at h1)
  have c1:=h1
  (simp only [bsX] at c1)
  repeat refine o11 ?_
  trivial
 ·skip
  (simp only [Int.reduceToNat,UInt8.reduceOfNat] at h1)
  have c1:=h1
  (simp only [bsX] at c1)
  exact absurd (show true=false from h1) (by decide)
theorem Qrk {ns:List SetS} {k0:Nat} (hl:ns.length≤1000) (hI:QgR ns=(k0:Int)) (h0:(Wl (ns.take (k0+1))).length=k0) (hk:DelT ns (k0+1) ns):Cf Tryz.prog 32 [(0,.rz ns.length 5 (stW ns) 48 0)] [.osl 0 ns.length,.v (.func (.func 33) #[] #[])] [(0,.rz (Wl ns).length 5 (stW (Wl ns)) 48 0)] (.osl 0 (Wl ns).length):=by
 have hk1:=hk.le;refine Qs {cut:=[38,41]} Tryz.func32 Tryz.ntmps32 ?_;refine clX (Qh4 hl hI) ?_
 repeat refine o11 ?_
 refine ⟨fun h1=>?_,fun h1=>?_⟩
 ·skip
  have c1:=h1
  (simp only [bsX] at c1)
  exact absurd c1 (by omega)
 ·skip
  have c1:=h1
  (simp only [bsX] at c1)
  repeat refine o3 ?_
  refine ⟨Nat×List SetS,fun s=>⟨[(0,.osl 0 ns.length),(1,.v (.func (.func 33) #[] #[])),(5,.i ((Wl (ns.take s.1)).length:Int)),(6,.i (s.1:Int))],[(0,.rz ns.length 5 (stW s.2) 48 0)]⟩,fun s=>DelT ns s.1 s.2,fun s=>ns.length - s.1,(k0+1,ns),hk,?_,fun s hx1=>?_⟩
  ·skip
   repeat refine o44 ?_
   trivial
  refine ⟨fun h2=>?_,fun h2=>?_⟩
  ·skip
   have c2:=h2
   (simp only [bsX] at c2)
   have hj:s.1 < ns.length:=by omega
   have hg:s.2.getD s.1 Qm=ns.getD s.1 Qm:=Qw6 hx1.dr (Qzl _);have hlt:=hx1.lt;have hlen:=hx1.len
   repeat refine o4 ?_
   refine clX (Qpt (s:=ns.getD s.1 Qm)) ?_
   repeat (refine Ob.mk ?_ ?_;focus (rw [Int.toNat_natCast,hg];done))
   refine ⟨fun h3=>?_,fun h3=>?_⟩
   ·skip
    have c3:=h3
    (simp only [bsX] at c3)
    have hz:(if WO (ns.getD s.1 Qm)=true then s.2 else s.2.set (Wl (ns.take s.1)).length (ns.getD s.1 Qm))=s.2.set (Wl (ns.take s.1)).length (ns.getD s.1 Qm):=if_neg (by rw [c3];decide);have hd:=QjE hj c3;have hdl:(Wl (ns.take (s.1+1))).length=(Wl (ns.take s.1)).length+1:=by rw [hd];simp
    have hnx:=hx1.ne hj c3;rw [← hz] at hnx
    repeat refine o3 ?_
    refine Ql (s.1+1,if WO (ns.getD s.1 Qm)=true then s.2 else s.2.set (Wl (ns.take s.1)).length (ns.getD s.1 Qm)) ?_
    repeat (refine Ob.mk ?_ ?_;focus (first | (exact Qw9 (v:=s.2.getD s.1 Qm) rfl (by omega) (hz.trans (congrArg (List.set s.2 (Wl (ns.take s.1)).length) hg.symm))) | (exact Eq.refl _) | omega | (simp only [SrcE.len,Nat.zero_add,Qzf,Qy9,List.length_nil];omega)))
    trivial
   ·skip
    have c3:=h3
    (simp only [bsX] at c3)
    have hz:(if WO (ns.getD s.1 Qm)=true then s.2 else s.2.set (Wl (ns.take s.1)).length (ns.getD s.1 Qm))=s.2:=if_pos c3;have hd:=QeW hj c3;have hnx:=hx1.eq hj c3;rw [← hz] at hnx
    repeat refine o3 ?_
    refine Ql (s.1+1,if WO (ns.getD s.1 Qm)=true then s.2 else s.2.set (Wl (ns.take s.1)).length (ns.getD s.1 Qm)) ?_
    repeat refine o61 ?_
    trivial
  ·skip
   have c2:=h2
   (simp only [bsX] at c2)
   have hlt:=hx1.lt;have hle:=hx1.le;have hfin:=hx1.fin (by omega)
   repeat (refine Ob.mk ?_ ?_;focus (first | (rw [Int.toNat_natCast,hfin.1];exact fun i hi j hj=>congrArg (stw · j) (hfin.2 i hi)) | omega | (simp_all;done)))
   trivial
theorem QuC {L:List SetS} (hl:L.length≤1000):Cf Tryz.prog 32 [(0,.rz L.length 5 (stW L) 48 0)] [.osl 0 L.length,.v (.func (.func 33) #[] #[])] [(0,.rz (Wl L).length 5 (stW (Wl L)) 48 0)] (.osl 0 (Wl L).length):=by
 by_cases h:L.any WO=true
 ·have h2:QgR L=((L.findIdx WO:Nat):Int):=if_pos h;obtain ⟨h1,h3,h4⟩:=QuA h2;generalize L.findIdx WO=k at h1 h2 h3 h4;have e:=Qmc k (by omega) h4;have e2:=QeW h1 h3;have e3:(Wl (L.take (k+1))).length=k:=by rw [e2,e,List.length_take];omega
  refine Qrk hl h2 e3 ⟨by omega,rfl,?_,rfl,by omega⟩;rw [e3,e2,e]
 ·have e:Wl L=L:=List.filter_eq_self.2 fun x hx=>by
   cases q:WO x with
   | false=>rfl
   | true=>exact absurd (Qzc.2 ⟨x,hx,q⟩) h
  rw [e];exact Qrj hl (if_neg h)
theorem Qrl {L:List SetS} (hL:∀ s∈L,Qx s):QgP (Wl L):=fun s hs=>by
 obtain ⟨h1,h2⟩:=Qzg.1 hs;have h3:=hL s h1;obtain ⟨k1,k2,_⟩:=YI h3.1;refine ⟨h3,?_⟩;unfold Qh2;unfold WO at h2;simp at h2;omega
theorem Qh5:∀ {L:List SetS} {c:ConfS} {a:List UInt8} {i:Nat},(Yx c a i L).2.2=0→∃ d b,goS c a L=some (d,b)∧Yx c a i L=(d,0,0)
 | [],c,a,i,_=>⟨c,a,rfl,rfl⟩
 | s::L,c,a,i,h=>by
  have h':(if (Qi c a s).2.2=0 then Yx (Qi c a s).1 (Qi c a s).2.1 (i+1) L else (Q4,(i:Int)+1,(Qi c a s).2.2)).2.2=0:=h;by_cases q:(Qi c a s).2.2=0
  ·rw [if_pos q] at h';obtain ⟨d,b,e1,e2⟩:=Qh5 h';refine ⟨d,b,?_,?_⟩
   ·show (if (Qi c a s).2.2=0 then goS (Qi c a s).1 (Qi c a s).2.1 L else none)=_;rw [if_pos q];exact e1
   ·show (if (Qi c a s).2.2=0 then Yx (Qi c a s).1 (Qi c a s).2.1 (i+1) L else (Q4,(i:Int)+1,(Qi c a s).2.2))=_;rw [if_pos q];exact e2
  ·rw [if_neg q] at h';exact absurd h' q
theorem Qrm {c:ConfS} {t0:SetS} {M:List SetS} (hc:ConfOk c) (hL:QgP (t0::M)) (ht0:t0.k=4) (hM:M.length≤8) (h3:∀ p∈c.ps,p.ns.length≤3) (h:(ZX c (t0::M)).2.2=0):ZX (ZX c (t0::M)).1 (t0::M)=((ZX c (t0::M)).1,0,0):=by
 obtain ⟨d,b,e1,e2⟩:=Qh5 h;have e3:ZX c (t0::M)=(d,0,0):=e2;rw [e3];refine Qjn 0 (Quz hc hL ht0 hM (fun p=>?_) e1);unfold peF
 cases g:QM c.ps p with
 | none=>exact Qzh _
 | some P=>exact h3 P (Zr g).1
def QuD:SetS:=⟨4,W5 3,0,[]⟩
theorem Qh6 (L:List SetS):Wl (QuD::L)=QuD::Wl L:=by
 unfold Wl;rw [List.filter_cons_of_pos];decide
theorem QyV {L M:List SetS} {s:SetS} {X:List EV} (hX:X=[stw s 0,stw s 1,stw s 2,stw s 3,stw s 4]) (hM:M=s::L):∀ a,a < 1+L.length → ∀ j,j < 5→(bif Nat.blt a 1 then X.getD (a * 5+j) .any else stW L (a - 1) j)=stW M a j:=by
 subst hX hM;intro a ha j hj
 cases a with
 | zero =>
  have hq:j=0∨j=1∨j=2∨j=3∨j=4:=by omega
  rcases hq with rfl | rfl | rfl | rfl | rfl <;> rfl
 | succ a=>rfl
theorem QgS {l m:List RawS} {C:ConfS} {L D:List SetS} {R:ConfS×Int×Int} (hl:∀ x∈l,x.inn) (hn:(l.length:Int)≤9223372036854775807) (hm:∀ x∈m,x.inn) (hmn:(m.length:Int)≤9223372036854775807) (eC:Yj l=C) (eL:WK m 8=L) (eD:QuD::Wl L=D) (eR:ZX C D=R):Cf Tryz.prog 9 [] [QR l,QR m] [] (.b true):=by
 have hC:ConfOk C:=eC ▸ Yk l;have h3:∀ p∈C.ps,p.ns.length≤3:=eC ▸ Qut l;have hL:∀ s∈L,Qx s:=eL ▸ fun s hs=>⟨(Zv m 8 s hs).1,(Zv m 8 s hs).2.1⟩;have hLn:L.length≤8:=by rw [← eL,Q7];omega
 have hdl:(Wl L).length≤8:=Nat.le_trans (List.length_filter_le _ _) hLn;have hDl:D.length≤9:=by rw [← eD,Qy9];omega
 have hk3:Qx QuD:=sok ((Qrb _).trans (Ys 3 (by decide))) rfl;have hG:QgP D:=by rw [← eD,← Qh6];exact Qrl (fun s hs=>by rcases Qy8.1 hs with rfl | hs;exact hk3;exact hL s hs)
 have hDs:∀ s∈D,Qx s:=fun s hs=>(hG s hs).1;have hK:=Yo hl hn;rw [eC] at hK;have hS:Cf Tryz.prog 25 [] [QR m,.i 8] [] (.lz L.length 5 (stW L)):=Cf.resAv (by rw [eL];exact (Qc4 L).symm) (WL (m:=8) hm hmn (by decide));have hdel:=QuC (L:=QuD::L) (by rw [Qy9];omega);rw [Qh6,eD] at hdel;have hr1:=(XU hC hDs (by omega)).arg2 (Qc4 D).symm;rw [eR] at hr1;have hRok:ConfOk R.1:=eR ▸ Xu hC hDs;have hr2:=(XU hRok hDs (by omega)).arg2 (Qc4 D).symm;have hR2ok:=Xu hRok hDs;have htw:R.2.2=0→ZX R.1 D=(R.1,0,0):=fun h=>by rw [← eR,← eD] at h ⊢;exact Qrm hC (by rw [eD];exact hG) rfl hdl h3 h
 obtain ⟨R2,eR2⟩:∃ R2,ZX R.1 D=R2:=⟨_,rfl⟩;rw [eR2] at hr2 hR2ok htw;have hKey:=JV (i:=3) (by decide);refine Qs {} Tryz.func9 Tryz.ntmps9 ?_;refine clX hK ?_
 repeat refine o1 ?_
 refine clX hKey ?_
 repeat refine o0 ?_
 refine clX hS ?_
 repeat refine o31 ?_
 refine clX hdel ?_
 repeat (refine Ob.mk ?_ ?_;focus (first | (exact QyV rfl rfl) | (simp;omega) | (exact Eq.refl _) | (exact Nat.le_of_ble_eq_true rfl) | (simp only [SrcE.len,Nat.zero_add,Qzf,Qy9,List.length_nil];omega)))
 refine clX hr1 ?_
 repeat refine o1 ?_
 refine clX hr2 ?_
 repeat refine o1 ?_
 refine clX VX ?_;refine ⟨fun h1=>?_,fun h1=>?_⟩
 ·skip
  have c1:=h1
  (simp only [bsX] at c1)
  exact absurd c1 (by decide)
 ·skip
  have c1:=h1
  (simp only [bsX] at c1)
  refine ⟨fun h2=>?_,fun h2=>?_⟩
  ·skip
   have c2:=h2
   (simp only [bsX] at c2)
   repeat refine o0 ?_
   trivial
  ·skip
   have c2:=h2
   (simp only [bsX] at c2)
   have hR2:=htw c2;subst hR2;have hsm:WR R.1 R.1=true:=W6.2 rfl;refine gx (fun hc=>(WM hRok hRok)) (fun hk=>⟨hk,?_⟩)
   repeat (refine Ob.mk ?_ ?_;focus (first | (simp;omega) | (intro _;exact Eq.refl _) | (intro hg;((intro hq;((simp_all;done)))))))
   trivial
theorem Qg5 {l m:List RawS} (hl:∀ x∈l,x.inn) (hn:(l.length:Int)≤9223372036854775807) (hm:∀ x∈m,x.inn) (hmn:(m.length:Int)≤9223372036854775807):Cf Tryz.prog 9 [] [QR l,QR m] [] (.b true):=QgS hl hn hm hmn rfl rfl rfl rfl
end
namespace applyTwice
open Go.ChangeShapes Go.WideShapes Go.ChangeAt Go.RowKit
open Go.ChangeMaps (open_string shut_string)
def QN:List (String×DataW Unit):=[("math/bits.deBruijn32tab",Rows.laid_math_bits_deBruijn32tab),("math/bits.deBruijn64tab",Rows.laid_math_bits_deBruijn64tab),("internal/strconv.uint64pow10",Rows.laid_internal_strconv_uint64pow10),("unicode/utf8.acceptRanges",Rows.laid_unicode_utf8_acceptRanges),("unicode/utf8.first",Rows.laid_unicode_utf8_first)]
theorem Zw {W:World} (h:laidMetH Tryz.prog QN W):Amb W (Vp W):=by
 rw [MakeChecks.laidMetH_plain _ _ _ (by kernel_rfl)] at h;unfold QN at h;exact YT (laidMet.tail (laidMet.tail h))
theorem Z5 (os:Os) (started:os.Started) (H:Type) (enc:TypeId×Value→H) :
  ReturnsInHanded {} Tryz.checked os 9 .any (fun w args=>(Rows.applyTwiceSpec.pre enc Tryz.prog Tryz.f9 Rows.applyTwiceRow.domain false w args∧laidMetH Tryz.prog QN w)∧sizedMet enc Tryz.prog Tryz.f9 (OpenSpec.ofChange Rows.applyTwiceSpec) false w args) (Rows.applyTwiceSpec.post enc Tryz.prog Tryz.f9 false true false false):=by
 refine returnsInHanded_of_change_and (C:=Tryz.checked) (X:=fun w _=>laidMetH Tryz.prog QN w) (fun _ _ _ hh h=>h.of_heap hh) own started (by kernel_rfl) Tryz.func9
  (ChangeSpec.witness_shaped (enc:=enc) (C:=Tryz.checked) (os:=os) (X:=fun w _=>laidMetH Tryz.prog QN w) false (World.laidAll Tryz.prog os QN) #[.slice none 0 0,.slice none 0 0] 8 (World.laidAll_os _ _ _)
   (World.shaped_of_ZipB (by kernel_rfl) (by kernel_rfl)) (by kernel_rfl) (by kernel_rfl) (by kernel_rfl)
   (by rw [MakeChecks.laidMetH_plain _ _ _ (by kernel_rfl)];exact laidMet_laidAll _ (by kernel_rfl) (by kernel_rfl))) ?_
 intro W base args ds gs before hval0 hW hcnd hwt hL _;have hval:∀ (j:Nat) t v,Tryz.f9.params[j]? = some t→args[j]? = some v→Value.okWide Tryz.prog W .any base t v:=hval0;have hW':=hW;obtain ⟨p,q,hA0,hV,rfl,hfz,hnd⟩:=hW;have hA:DataW.TrodAll enc Tryz.prog W 0 (fun _=>true) true Tryz.f9.params.toList args.toList ds p:=hA0;rw [Tryz.params9] at hA hval;obtain ⟨v0,vs0,d0,ds0,p0,q0,hargs,rfl,rfl,h0,r0⟩:=trodAll_cons hA;obtain ⟨v1,vs1,d1,ds1,p1,q1,rfl,rfl,rfl,h1,r1⟩:=trodAll_cons r0;obtain ⟨rfl,rfl,rfl⟩:=trodAll_nil r1;obtain rfl:args = #[v0,v1]:=by cases args;simp_all
 obtain ⟨rfl,rfl⟩:=trodVars_none hV;have k0:=h0;have lt0:∀ x∈p0,x.block < W.heap.size:=by obtain ⟨m,hm⟩:=k0;exact DataW.trod_lt m _ _ _ hm
 have k1:=h1;have lt1:∀ x∈p1,x.block < W.heap.size:=by obtain ⟨m,hm⟩:=k1;exact DataW.trod_lt m _ _ _ hm
 obtain ⟨l0,ok0,z0⟩:=Wb (hval 0 _ v0 rfl rfl) h0;obtain ⟨l1,ok1,z1⟩:=Wb (hval 1 _ v1 rfl rfl) h1;clear hA0 hval0;refine (Z8 (vs:=[_,_]) (Qg5 ok0.2 (by have:=ok0.1;unfold maxLen at this;omega) ok1.2 (by have:=ok1.1;unfold maxLen at this;omega)) (Zw hL) (Wd z0 (Wd z1 VR))).mono fun e W9 ⟨he,bel⟩=>?_;subst he;exact ⟨_,rfl,_,_,_,[],_,[],hW',trodAll_mk1 (shut_bool Tryz.underlying4 _),(trodAll_cons_mk (Below.trod WD (by kernel_rfl) (of_decide_eq_true (by kernel_rfl)) k0 bel lt0) (trodAll_cons_mk (Below.trod WD (by kernel_rfl) (of_decide_eq_true (by kernel_rfl)) k1 bel lt1) trodAll_mk0)),rfl,bel.frame _,fun h=>by cases h⟩
theorem QaS:(Rows.applyTwiceRow.inPlace == Tryz.pinned.checked.prog.inPlace 9)=true:=by kernel_rfl
theorem QaT:(Rows.applyTwiceRow.unfollowed == Tryz.pinned.checked.prog.unfollowed 9)=true:=by kernel_rfl
theorem QaU:(Rows.applyTwiceRow.recurses == Tryz.pinned.checked.prog.recurses 9)=true:=by kernel_rfl
theorem QaV:(Rows.applyTwiceRow.named == Tryz.pinned.checked.prog.varsNamed 9)=true:=by kernel_rfl
theorem QaW:(Rows.applyTwiceRow.plainKeys == Tryz.pinned.checked.prog.plainKeys)=true:=by kernel_rfl
theorem Z6:joinedFacts Tryz.pinned.checked.prog 9 Tryz.f9 Rows.applyTwiceSpec Rows.applyTwiceRow=true:=by
 unfold joinedFacts;exact Qc (Qc (Qc (Qc (Qc (Qc (Qc (Qc (Qc (Qc (Qc (Qc (Qc (Qc (Qc (Qc (Qc (Qc (Qc (Qc (Qc (Qc (Qc (Qc (Qc (Qc (Qc (Qc (Qc (Qc (Qc (by kernel_rfl) Qc6) Qc5) (by kernel_rfl)) (by kernel_rfl)) (by kernel_rfl)) (by kernel_rfl)) (by kernel_rfl)) (by kernel_rfl)) QaS) QaT) QaU) QaV) (by kernel_rfl)) (by kernel_rfl)) (by kernel_rfl)) (by kernel_rfl)) (by kernel_rfl)) (by kernel_rfl)) (by kernel_rfl)) (by kernel_rfl)) (by kernel_rfl)) QaW) (by kernel_rfl)) JX) JW) (YW (by kernel_rfl))) (XV (by kernel_rfl))) (by kernel_rfl)) (by kernel_rfl)) (by kernel_rfl)) (by kernel_rfl)
theorem QaX:Rows.applyTwiceRow.holds Tryz.pinned (OpenSpec.ofChange Rows.applyTwiceSpec) :=
 OpenClaim.holds_of_wide 9 Tryz.f9 rfl rfl rfl rfl rfl rfl rfl ⟨rfl,rfl,rfl,rfl,rfl⟩ rfl rfl rfl rfl rfl (by kernel_rfl) Tryz.func9 Z6
  (of_decide_eq_true (by kernel_rfl)) (by unfold Func.isWrapper;first | (rw [if_pos (by decide +kernel)];kernel_rfl) | (rw [if_neg (by decide +kernel)];exact ⟨rfl,rfl⟩))
  (fun os started H enc _=>Z5 os started H enc)
theorem pw1:Rows.applyTwiceRow.wfByText (OpenSpec.ofChange Rows.applyTwiceSpec)=true:=by kernel_rfl
theorem pw2:Tryz.pinned.checked.prog.mainIs=some ((true,"304393dc0cffdc476f139ebc5f59f91e4654f2b28d5098997c89b056d7c62b16").1,(true,"304393dc0cffdc476f139ebc5f59f91e4654f2b28d5098997c89b056d7c62b16").2.toList):=by kernel_rfl
theorem pw3:false=Tryz.pinned.checked.prog.looks []:=by kernel_rfl
theorem pw4:([22,22].all fun u=>!Tryz.prog.wantsStandIn u)=true:=by kernel_rfl
theorem pw5:false=Rows.applyTwiceRow.goesBy Tryz.pinned.checked.prog:=by kernel_rfl
theorem pw6:Tryz.prog.funcNamed "cattlecreep/cattlecreepkeep.ApplyTwice" = some 9:=by kernel_rfl
theorem proved:Rows.ApplyTwiceCardSaid :=
 Claim7.holds_tied_plain_at .later [] [.data,.data,.data,.data,.pinned] true (true,"304393dc0cffdc476f139ebc5f59f91e4654f2b28d5098997c89b056d7c62b16") false
  QaX (fun _ h=>by cases h) pw1 (fun _ h=>by cases h) applyTwice_row_tie rfl ⟨rfl,rfl⟩ pw2 rfl
  (fun f fn hf hfn=>by
   obtain rfl:f=9:=Qzk.inj (pw6.symm.trans hf) |>.symm;obtain rfl:fn=Tryz.f9:=(Qzk.inj (Tryz.func9.symm.trans hfn)).symm
   exact ⟨pw3,fun j t ht=>by
    rw [Tryz.params9] at ht;have hm:t∈[22,22]:=by simpa using Array.mem_of_getElem? ht
    exact (show Tryz.prog.wantsStandIn t=false by simpa using List.all_eq_true.1 pw4 t hm)⟩)
  pw5
#print axioms proved
end applyTwice
end Go.Proofs.YtcebndkiagbddaaGreatDoor
