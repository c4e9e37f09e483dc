/- A part of the proof: contracts of functions and what they stand on. Written shorter and merged by a program (pack.py). -/
import Derived.Test.YtcebndkiagbddaaGreatDoorK9
set_option linter.unusedVariables false
set_option linter.unusedSimpArgs false
set_option maxRecDepth 100000
set_option maxHeartbeats 4000000
open Nat renaming beq -> Qxo
open Bool renaming and_eq_true -> Qxp
open List renaming mem_append_right -> Qxq, mem_append_left -> Qxr, map_congr_left -> Qxs, map_cons -> Qxt, take_of_length_le -> Qxv
open Array renaming length_toList -> Qxu
namespace Go.Proofs.YtcebndkiagbddaaGreatDoor
section
open Go.RowKit
mutual
def EV.sg (σ:List (Nat×Nat)):EV->EV
 | .agg l=>.agg (sgE σ l)
 | .tup l=>.tup (sgE σ l)
 | .own q off=>.own (YtcebndkiagbddaaGreatDoor.sg σ q) off
 | .po q sz i off=>.po (YtcebndkiagbddaaGreatDoor.sg σ q) sz i off
 | .osl q n=>.osl (YtcebndkiagbddaaGreatDoor.sg σ q) n
 | .fn f c=>.fn f c
 | .rp t=>.rp t
 | .mref q=>.mref (YtcebndkiagbddaaGreatDoor.sg σ q)
 | .oss q k n s=>.oss (YtcebndkiagbddaaGreatDoor.sg σ q) k n s
 | .cnd g x=>.cnd g (EV.sg σ x)
 | .v x=>.v x
 | .u8 c=>.u8 c
 | .u32 c=>.u32 c
 | .u64 c=>.u64 c
 | .az n f=>.az n f
 | .bs l=>.bs l
 | .lz n sz f=>.lz n sz f
 | .pp c o=>.pp c o
 | .pb l i=>.pb l i
 | .pz n sz f i o=>.pz n sz f i o
 | .raw x=>.raw x
 | .sl c n=>.sl c n
 | .any=>.any
def sgE (σ:List (Nat×Nat)):List EV->List EV
 | []=>[]
 | x::xs=>EV.sg σ x::sgE σ xs
end
mutual
theorem QpU (σ:List (Nat×Nat)):∀ x:EV,(x.sg σ).av=x.av.sg σ
 | .agg l=>by unfold EV.sg EV.av AV.sg;rw [Qgg σ l]
 | .tup l=>by unfold EV.sg EV.av AV.sg;rw [Qgg σ l]
 | .own q off=>by unfold EV.sg EV.av AV.sg;rfl
 | .po q sz i off=>by unfold EV.sg EV.av AV.sg;rfl
 | .osl q n=>by unfold EV.sg EV.av AV.sg;rfl
 | .fn f c=>by unfold EV.sg EV.av AV.sg;rfl
 | .rp t=>by unfold EV.sg EV.av AV.sg;rfl
 | .mref q=>by unfold EV.sg EV.av AV.sg;rfl
 | .oss q _ _ _=>by unfold EV.sg EV.av AV.sg;rfl
 | .cnd g x=>by unfold EV.sg EV.av AV.sg;rw [QpU σ x]
 | .v x=>by unfold EV.sg EV.av AV.sg;rfl
 | .u8 c=>by unfold EV.sg EV.av AV.sg;rfl
 | .u32 c=>by unfold EV.sg EV.av AV.sg;rfl
 | .u64 c=>by unfold EV.sg EV.av AV.sg;rfl
 | .az n f=>by unfold EV.sg EV.av AV.sg;rfl
 | .bs l=>by unfold EV.sg EV.av AV.sg;rfl
 | .lz n sz f=>by unfold EV.sg EV.av AV.sg;rfl
 | .pp c o=>by unfold EV.sg EV.av AV.sg;rfl
 | .pb l i=>by unfold EV.sg EV.av AV.sg;rfl
 | .pz n sz f i o=>by unfold EV.sg EV.av AV.sg;rfl
 | .raw x=>by unfold EV.sg EV.av AV.sg;rfl
 | .sl c n=>by unfold EV.sg EV.av AV.sg;rfl
 | .any=>by unfold EV.sg EV.av AV.sg;rfl
theorem Qgg (σ:List (Nat×Nat)):∀ l:List EV,avL (sgE σ l)=sgL σ (avL l)
 | []=>rfl
 | x::xs=>by unfold sgE avL sgL;rw [QpU σ x,Qgg σ xs]
end
theorem QhN (σ:List (Nat×Nat)) (l:List PV):sgL σ (l.map AV.p)=l.map AV.p:=by
 induction l with
 | nil=>rfl
 | cons x l ih=>simp only [Qxt,sgL,AV.sg,ih]
def EB.sg (σ:List (Nat×Nat)):EB->EB
 | .box cells t=>.box (sgE σ cells) t
 | .it m a b c=>.it (YtcebndkiagbddaaGreatDoor.sg σ m) a b c
 | .ra n sz f t ns=>.ra n sz f t (ns.map (YtcebndkiagbddaaGreatDoor.sg σ))
 | x=>x
theorem sg_ob (σ:List (Nat×Nat)) (x:EB):(x.sg σ).ob=x.ob.sg σ:=by
 cases x with
 | bz n f t=>show OB.box _ t=OB.box (sgL σ _) t;rw [QhN]
 | _=>simp [EB.sg,EB.ob,OB.sg,Qgg]
def QhO (σ:List (Nat×Nat)):List (Nat×EB)->List (Nat×EB)
 | []=>[]
 | (q,x)::h=>(sg σ q,x.sg σ)::QhO σ h
theorem QdB (σ:List (Nat×Nat)):∀ h:List (Nat×EB),obs (QhO σ h)=sgH σ (obs h)
 | []=>rfl
 | (q,x)::h=>by simp only [QhO,obs,sgH,sg_ob,QdB σ h]
def QhP (σ:List (Nat×Nat)):List (Nat×EB)->List (Nat×EB)
 | []=>[]
 | (q,_)::h=>(sg σ q,.dead)::QhP σ h
theorem Qe6 (σ:List (Nat×Nat)):∀ h:List (Nat×EB),obs (QhP σ h)=Zx σ (obs h)
 | []=>rfl
 | (q,x)::h=>by simp only [QhP,obs,Zx,Qe6 σ h];rfl
def QnF:IntKind->Nat
 | .i8=>0 | .i16=>1 | .i32=>2 | .i64=>3 | .u8=>4 | .u16=>5 | .u32=>6 | .u64=>7
theorem QtB {a b:IntKind} (h:Qxo (QnF a) (QnF b)=true):a=b:=by
 have:=Qc h;cases a <;> cases b <;> first | rfl | cases this
def QdC (τ:List (Nat×Nat)) (q r:Nat):Option (List (Nat×Nat)) :=
 bif Q6 q τ then (bif Qxo (sg τ q) r then some τ else none) else (match sgi r τ with | none=>some ((q,r)::τ) | some _=>none)
def QtC (a b:Value):Option (List Prop) :=
 match b with
 | .int k' j=>match a with
  | .int k i=>bif Qxo (QnF k) (QnF k') then some [i=j] else none
  | _=>none
 | .bool q=>match a with
  | .bool g=>some [g=q]
  | _=>none
 | .string ⟨⟨m⟩⟩=>match a with
  | .string ⟨⟨l⟩⟩=>some [l=m]
  | _=>none
 | b=>some [a=b]
theorem QlX {a b:Value} {C:List Prop} (h:QtC a b=some C) (hC:∀ c∈C,c):a=b:=by
 unfold QtC at h;split at h
 ·next k' j =>
  split at h
  ·next k i =>
   cases hk:Qxo (QnF k) (QnF k') with
   | false=>rw [hk] at h;cases h
   | true=>rw [hk] at h;cases h;rw [QtB hk,hC (i=j) (by simp)]
  ·cases h
 ·next q =>
  split at h
  ·next g=>cases h;rw [hC (g=q) (by simp)]
  ·cases h
 ·next m =>
  split at h
  ·next l=>cases h;rw [hC (l=m) (by simp)]
  ·cases h
 ·cases h;exact hC (a=b) (by simp)
def fitC (x y:EV):List Prop :=
 match y with
 | .u8 c=>match Qbs x with
  | some a=>[a=c]
  | none=>[False]
 | .u32 c=>match YA x with
  | some a=>[a=c]
  | none=>[False]
 | .u64 c=>match XL x with
  | some a=>[a=c]
  | none=>[False]
 | .v b=>match x with
  | .v a=>match QtC a b with
   | some C=>C
   | none=>[False]
  | _=>[False]
 | y=>[x.pv=y.pv]
theorem QdD {x:EV} {u:Value} (h:x.av=.p (.v u)):x.pv=.v u:=by
 cases x <;> simp only [EV.av,EV.pv,AV.p.injEq,reduceCtorEq] at h ⊢ <;> exact h
theorem QtD {x y:EV} (h:∀ c∈fitC x y,c):x.pv=y.pv:=by
 unfold fitC at h;split at h
 ·next c =>
  split at h
  ·next a ha=>have e:=h (a=c) (by simp);subst e;rw [QdD (Qke ha)];rfl
  ·exact (h False (by simp)).elim
 ·next c =>
  split at h
  ·next a ha=>have e:=h (a=c) (by simp);subst e;rw [QdD (Qf9 ha)];rfl
  ·exact (h False (by simp)).elim
 ·next c =>
  split at h
  ·next a ha=>have e:=h (a=c) (by simp);subst e;rw [QdD (Qga ha)];rfl
  ·exact (h False (by simp)).elim
 ·split at h
  ·split at h
   ·next hv=>rw [QlX hv h]
   ·exact (h False (by simp)).elim
  ·exact (h False (by simp)).elim
 ·exact h _ (by simp)
def Qkl (g:Nat->EV):Nat->List EV->List Prop
 | _,[]=>[]
 | i,x::l=>fitC x (g i)++Qkl g (i+1) l
theorem QhQ {g:Nat->EV}:∀ {l:List EV} {i:Nat},(∀ c∈Qkl g i l,c)->pvL l=(List.range l.length).map fun j=>(g (i+j)).pv
 | [],i,_=>rfl
 | x::l,i,h=>by
  have h1:=QtD (x:=x) (y:=g i) (fun c hc=>h c (by simp [Qkl,hc]));have h2:=QhQ (g:=g) (l:=l) (i:=i+1) (fun c hc=>h c (by simp [Qkl,hc]));rw [List.length_cons,List.range_succ_eq_map,Qxt,List.map_map];simp only [pvL];rw [h1,h2];congr 1;apply Qxs;intro j _;show (g (i+1+j)).pv=(g (i+(j+1))).pv;rw [Nat.add_assoc,Nat.add_comm 1]
theorem QlY {l:List EV} {g:Nat->EV} (h:∀ c∈Qkl g 0 l,c):pvL l=azC l.length g:=by
 rw [QhQ h];apply Qxs;intro j _;rw [Nat.zero_add]
mutual
def fit (τ:List (Nat×Nat)) (x:EV):EV->Option (List Prop×List (Nat×Nat))
 | .any=>some ([],τ)
 | .v b=>match x with
  | .v a=>match QtC a b with
   | some C=>some (C,τ)
   | none=>none
  | _=>none
 | .u8 c=>match Qbs x with
  | some a=>some ([a=c],τ)
  | none=>none
 | .u32 c=>match YA x with
  | some a=>some ([a=c],τ)
  | none=>none
 | .u64 c=>match XL x with
  | some a=>some ([a=c],τ)
  | none=>none
 | .az n' g=>match x with
  | .az n f=>some ([n=n',∀ i,i < n->f i=g i],τ)
  | .agg l=>bif shL l then some ((l.length=n')::Qkl g 0 l,τ) else none
  | _=>none
 | .bs m=>match x with
  | .bs l=>some ([l=m],τ)
  | .v (.slice none 0 0)=>some ([m=[]],τ)
  | .sl cells n=>match QeL cells with
   | some l=>some ([l=m,n=l.length],τ)
   | none=>none
  | _=>none
 | .lz n' sz' g=>match x with
  | .lz n sz f=>bif Qxo sz sz' then some ([n=n',∀ i,i < n -> ∀ j,j < sz->f i j=g i j],τ) else none
  | .v (.slice none 0 0)=>some ([n'=0],τ)
  | .sl cells n=>some ([n=n',cells.length=n * sz',∀ i,i < n -> ∀ j,j < sz'->cells.getD (i * sz'+j) .any=g i j],τ)
  | _=>none
 | .sl c' n'=>match x with
  | .sl c n=>some ([c=c',n=n'],τ)
  | .v (.slice none 0 0)=>some ([c'=[],n'=0],τ)
  | _=>none
 | .pp c' o'=>match x with
  | .pp c o=>some ([c=c',o=o'],τ)
  | .rp t=>some ([t=some (pvL c'),o'=0],τ)
  | _=>none
 | .fn f' c'=>match x with
  | .fn f c=>bif Qxo f f' then some ([c=c'],τ) else none
  | _=>none
 | .rp t'=>match x with
  | .rp t=>some ([t=t'],τ)
  | x=>bif x.sh then some ([x.pv=rpP t'],τ) else none
 | .mref q=>match x with
  | .mref r=>QdC τ q r |>.map fun τ'=>([],τ')
  | _=>none
 | .own q o'=>match x with
  | .own r o=>match QdC τ q r with
   | some τ'=>some ([o=o'],τ')
   | none=>none
  | _=>none
 | .osl q n'=>match x with
  | .osl r n=>match QdC τ q r with
   | some τ'=>some ([n=n'],τ')
   | none=>none
  | _=>none
 | .agg m=>match x with
  | .agg l=>JD τ l m
  | _=>none
 | .tup m=>match x with
  | .tup l=>JD τ l m
  | _=>none
 | .po q s j o=>match x with
  | .po r s' i o'=>bif Qxo s s' && Qxo o o' then (match QdC τ q r with
   | some τ'=>some ([i=j],τ')
   | none=>none) else none
  | _=>none
 | .oss _ _ _ _=>none
 | .cnd _ _=>none
 | .pb l i=>some ([x=.pb l i],τ)
 | .pz n s f i o=>some ([x=.pz n s f i o],τ)
 | .raw z=>some ([x=.raw z],τ)
def JD (τ:List (Nat×Nat)) (xs:List EV):List EV->Option (List Prop×List (Nat×Nat))
 | []=>match xs with
  | []=>some ([],τ)
  | _=>none
 | y::ys=>match xs with
  | x::xs=>match fit τ x y with
   | some (C,τ')=>match JD τ' xs ys with
    | some (C',τ'')=>some (C++C',τ'')
    | none=>none
   | none=>none
  | []=>none
end
def Ext (σ τ:List (Nat×Nat)):Prop:=∀ q,Q6 q τ=true->Q6 q σ=true/\sg σ q=sg τ q
theorem Ext.refl (σ:List (Nat×Nat)):Ext σ σ:=fun _ h=>⟨h,rfl⟩
theorem Ext.trans {a b c:List (Nat×Nat)} (h:Ext a b) (k:Ext b c):Ext a c:=fun q hq=>⟨(h q (k q hq).1).1,((h q (k q hq).1).2).trans (k q hq).2⟩
theorem WK {τ τ':List (Nat×Nat)} {q r:Nat} (h:QdC τ q r=some τ'):Ext τ' τ/\Q6 q τ'=true/\sg τ' q=r/\(W3 τ=true->W3 τ'=true):=by
 unfold QdC at h
 cases hd:Q6 q τ with
 | true =>
  rw [hd] at h;simp only [cond_true] at h
  cases hb:Qxo (sg τ q) r with
  | false=>rw [hb] at h;cases h
  | true=>rw [hb] at h;cases h;exact ⟨Ext.refl _,hd,Qc hb,id⟩
 | false =>
  rw [hd] at h;simp only [cond_false] at h;split at h
  ·next hs =>
   cases h;refine ⟨fun p hp=>?_,by simp [Q6],by simp [sg,look],fun ho=>by simp [W3,hd,hs,ho]⟩;have hne:q≠p:=fun e=>by subst e;rw [hd] at hp;cases hp
   refine ⟨by simp [Q6,hp],?_⟩;unfold sg;rw [Qb,if_neg hne]
  ·cases h
mutual
theorem Qkm:∀ (y:EV) {τ τ':List (Nat×Nat)} {x:EV} {C:List Prop},fit τ x y=some (C,τ')->(∀ c∈C,c) ->
  Ext τ' τ/\(W3 τ=true->W3 τ'=true) /\ ∀ σ,Ext σ τ'->Gv x.av (y.av.sg σ)
 | .any,τ,τ',x,C,h,hC=>by
  unfold fit at h;cases h;exact ⟨Ext.refl _,id,fun σ _=>by unfold EV.av AV.sg;exact Gv.any⟩
 | .v b,τ,τ',x,C,h,hC=>by
  unfold fit at h;split at h
  ·split at h
   ·next C' hv =>
    cases h;have e:=QlX hv hC;subst e;exact ⟨Ext.refl _,id,fun σ _=>by unfold EV.av AV.sg;exact Gv.r⟩
   ·cases h
  ·cases h
 | .u8 c,τ,τ',x,C,h,hC=>by
  unfold fit at h;split at h
  ·next a ha =>
   cases h;have e:=hC (a=c) (by simp);subst e;exact ⟨Ext.refl _,id,fun σ _=>by have:=Jh ha;unfold EV.av AV.sg;unfold EV.av at this;exact this⟩
  ·cases h
 | .u32 c,τ,τ',x,C,h,hC=>by
  unfold fit at h;split at h
  ·next a ha =>
   cases h;have e:=hC (a=c) (by simp);subst e;exact ⟨Ext.refl _,id,fun σ _=>by have:=VR ha;unfold EV.av AV.sg;unfold EV.av at this;exact this⟩
  ·cases h
 | .u64 c,τ,τ',x,C,h,hC=>by
  unfold fit at h;split at h
  ·next a ha =>
   cases h;have e:=hC (a=c) (by simp);subst e;exact ⟨Ext.refl _,id,fun σ _=>by have:=VS ha;unfold EV.av AV.sg;unfold EV.av at this;exact this⟩
  ·cases h
 | .az n' g,τ,τ',x,C,h,hC=>by
  unfold fit at h;split at h
  ·next n f =>
   cases h;have e1:=hC (n=n') (by simp);subst e1;have e2:=hC (∀ i,i < n->f i=g i) (by simp);refine ⟨Ext.refl _,id,fun σ _=>?_⟩;unfold EV.av AV.sg EV.pv;have e3:azC n f=azC n g:=Qxs fun i hi=>by rw [e2 i (List.mem_range.1 hi)]
   show Gv (.p (.agg (azC n f))) (.p (.agg (azC n g)));rw [e3];exact Gv.r
  ·next l =>
   cases hs:shL l with
   | false=>rw [hs] at h;cases h
   | true =>
    rw [hs] at h;cases h;have e1:=hC (l.length=n') (by simp);subst e1;have e3:=QlY (g:=g) (l:=l) (fun c hc=>hC c (by simp [hc]));refine ⟨Ext.refl _,id,fun σ _=>?_⟩;have k:=Gv.sh (x:=.agg l) hs;have e4:(EV.agg l).pv=.agg (azC l.length g):=by rw [<- e3];rfl
    rw [e4] at k;have e5:(EV.az l.length g).av.sg σ=.p (.agg (azC l.length g)):=by unfold EV.av AV.sg EV.pv;rfl
    rw [e5];exact k
  ·cases h
 | .bs m,τ,τ',x,C,h,hC=>by
  unfold fit at h;split at h
  ·next l =>
   cases h;have e:=hC (l=m) (by simp);subst e;exact ⟨Ext.refl _,id,fun σ _=>by unfold EV.av AV.sg;exact Gv.r⟩
  ·cases h;have e:=hC (m=[]) (by simp);subst e;exact ⟨Ext.refl _,id,fun σ _=>by unfold EV.av AV.sg;exact Gv.nilSl⟩
  ·next cells n =>
   split at h
   ·next l hl =>
    cases h;have e:=hC (l=m) (by simp);subst e;have e2:=hC (n=l.length) (by simp);subst e2;obtain ⟨u1,u2⟩:=Xi hl;refine ⟨Ext.refl _,id,fun σ _=>?_⟩;unfold EV.av AV.sg;show Gv (.p (.sl (pvL cells) l.length)) (.p (WS l));rw [u1];exact Gv.r
   ·cases h
  ·cases h
 | .lz n' sz' g,τ,τ',x,C,h,hC=>by
  unfold fit at h;split at h
  ·next n sz f =>
   cases hb:Qxo sz sz' with
   | false=>rw [hb] at h;cases h
   | true =>
    rw [hb] at h;cases h;have e0:=Qc hb;subst e0;have e1:=hC (n=n') (by simp);subst e1;have e2:=hC (∀ i,i < n -> ∀ j,j < sz->f i j=g i j) (by simp);refine ⟨Ext.refl _,id,fun σ _=>?_⟩;unfold EV.av AV.sg;show Gv (.p (.sl (lzC n sz f) n)) (.p (.sl (lzC n sz g) n));rw [Yk e2];exact Gv.r
  ·cases h;have e:=hC (n'=0) (by simp);subst e;exact ⟨Ext.refl _,id,fun σ _=>by unfold EV.av AV.sg EV.pv;exact Gv.nilSl⟩
  ·next cells n =>
   cases h;have e1:=hC (n=n') (by simp);subst e1;have e2:=hC (cells.length=n * sz') (by simp);have e3:=hC (∀ i,i < n -> ∀ j,j < sz'->cells.getD (i * sz'+j) .any=g i j) (by simp);refine ⟨Ext.refl _,id,fun σ _=>?_⟩;unfold EV.av AV.sg;show Gv (.p (.sl (pvL cells) n)) (.p (.sl (lzC n sz' g) n));rw [<- Qgf n sz' cells e2,Yk e3];exact Gv.r
  ·cases h
 | .sl c' n',τ,τ',x,C,h,hC=>by
  unfold fit at h;split at h
  ·next c n =>
   cases h;have e1:=hC (c=c') (by simp);have e2:=hC (n=n') (by simp);subst e1 e2;exact ⟨Ext.refl _,id,fun σ _=>by unfold EV.av AV.sg;exact Gv.r⟩
  ·cases h;have e1:=hC (c'=[]) (by simp);have e2:=hC (n'=0) (by simp);subst e1 e2;exact ⟨Ext.refl _,id,fun σ _=>by unfold EV.av AV.sg;exact Gv.nilSl⟩
  ·cases h
 | .pp c' o',τ,τ',x,C,h,hC=>by
  unfold fit at h;split at h
  ·next c o =>
   cases h;have e1:=hC (c=c') (by simp);have e2:=hC (o=o') (by simp);subst e1 e2;exact ⟨Ext.refl _,id,fun σ _=>by unfold EV.av AV.sg;exact Gv.r⟩
  ·next t =>
   cases h;have e1:=hC (t=some (pvL c')) (by simp);have e2:=hC (o'=0) (by simp);subst e1 e2;exact ⟨Ext.refl _,id,fun σ _=>by unfold EV.av AV.sg;exact Gv.r⟩
  ·cases h
 | .own q o',τ,τ',x,C,h,hC=>by
  unfold fit at h;split at h
  ·next r o =>
   split at h
   ·next t ht =>
    cases h;have e1:=hC (o=o') (by simp);subst e1;obtain ⟨a1,a2,a3,a4⟩:=WK ht;refine ⟨a1,a4,fun σ hσ=>?_⟩;unfold EV.av AV.sg;rw [(hσ q a2).2,a3];exact Gv.r
   ·cases h
  ·cases h
 | .osl q n',τ,τ',x,C,h,hC=>by
  unfold fit at h;split at h
  ·next r n =>
   split at h
   ·next t ht =>
    cases h;have e1:=hC (n=n') (by simp);subst e1;obtain ⟨a1,a2,a3,a4⟩:=WK ht;refine ⟨a1,a4,fun σ hσ=>?_⟩;unfold EV.av AV.sg;rw [(hσ q a2).2,a3];exact Gv.r
   ·cases h
  ·cases h
 | .agg m,τ,τ',x,C,h,hC=>by
  unfold fit at h;split at h
  ·next l =>
   obtain ⟨a1,a2,a3⟩:=Vk m h hC;refine ⟨a1,a2,fun σ hσ=>?_⟩;unfold EV.av AV.sg;intro w Pub φ u hu;unfold RA at hu ⊢;obtain ⟨vs,e,hu⟩:=hu;exact ⟨vs,e,(a3 σ hσ).R hu⟩
  ·cases h
 | .tup m,τ,τ',x,C,h,hC=>by
  unfold fit at h;split at h
  ·next l =>
   obtain ⟨a1,a2,a3⟩:=Vk m h hC;refine ⟨a1,a2,fun σ hσ=>?_⟩;unfold EV.av AV.sg;intro w Pub φ u hu;unfold RA at hu ⊢;obtain ⟨vs,e,hu⟩:=hu;exact ⟨vs,e,(a3 σ hσ).R hu⟩
  ·cases h
 | .po q s j o,τ,τ',x,C,h,hC=>by
  unfold fit at h;split at h
  ·next r s' i o' =>
   cases hb:Qxo s s' && Qxo o o' with
   | false=>rw [hb] at h;cases h
   | true =>
    rw [hb] at h;simp only [cond_true] at h;simp only [Qxp] at hb;split at h
    ·next t ht =>
     cases h;have e1:=Qc hb.1;have e2:=Qc hb.2;subst e1 e2;have e1:=hC (i=j) (by simp);subst e1;obtain ⟨a1,a2,a3,a4⟩:=WK ht;refine ⟨a1,a4,fun σ hσ=>?_⟩;unfold EV.av AV.sg;rw [(hσ q a2).2,a3];exact Gv.r
    ·cases h
  ·cases h
 | .cnd g z,τ,τ',x,C,h,hC=>by
  unfold fit at h;cases h
 | .pb l i,τ,τ',x,C,h,hC=>by
  unfold fit at h;cases h;have e:=hC (x=.pb l i) (by simp);subst e;exact ⟨Ext.refl _,id,fun σ _=>by unfold EV.av AV.sg;exact Gv.r⟩
 | .pz n s f i o,τ,τ',x,C,h,hC=>by
  unfold fit at h;cases h;have e:=hC (x=.pz n s f i o) (by simp);subst e;exact ⟨Ext.refl _,id,fun σ _=>by unfold EV.av AV.sg;exact Gv.r⟩
 | .fn f' c',τ,τ',x,C,h,hC=>by
  unfold fit at h;split at h
  ·next f c =>
   cases hb:Qxo f f' with
   | false=>rw [hb] at h;cases h
   | true =>
    rw [hb] at h;cases h;have e1:=hC (c=c') (by simp);subst e1;have e2:=Qc hb;subst e2;exact ⟨Ext.refl _,id,fun σ _=>by unfold EV.av AV.sg;exact Gv.r⟩
  ·cases h
 | .rp t',τ,τ',x,C,h,hC=>by
  unfold fit at h;split at h
  ·next t =>
   cases h;have e1:=hC (t=t') (by simp);subst e1;exact ⟨Ext.refl _,id,fun σ _=>by unfold EV.av AV.sg;exact Gv.r⟩
  ·cases hb:x.sh with
   | false=>rw [hb] at h;cases h
   | true =>
    rw [hb] at h;cases h;have e1:=hC (x.pv=rpP t') (by simp);refine ⟨Ext.refl _,id,fun σ _=>?_⟩;have e2:(EV.rp t').av.sg σ=.p x.pv:=by rw [e1];unfold EV.av AV.sg;rfl
    rw [e2];exact Gv.sh hb
 | .mref q,τ,τ',x,C,h,hC=>by
  unfold fit at h;split at h
  ·next r =>
   cases ht:QdC τ q r with
   | none=>rw [ht] at h;cases h
   | some t =>
    rw [ht] at h;cases h;obtain ⟨a1,a2,a3,a4⟩:=WK ht;refine ⟨a1,a4,fun σ hσ=>?_⟩;unfold EV.av AV.sg;rw [(hσ q a2).2,a3];exact Gv.r
  ·cases h
 | .oss _ _ _ _,τ,τ',x,C,h,hC=>by unfold fit at h;cases h
 | .raw z,τ,τ',x,C,h,hC=>by
  unfold fit at h;cases h;have e:=hC (x=.raw z) (by simp);subst e;exact ⟨Ext.refl _,id,fun σ _=>by unfold EV.av AV.sg;exact Gv.r⟩
theorem Vk:∀ (ys:List EV) {τ τ':List (Nat×Nat)} {xs:List EV} {C:List Prop},JD τ xs ys=some (C,τ')->(∀ c∈C,c) ->
  Ext τ' τ/\(W3 τ=true->W3 τ'=true) /\ ∀ σ,Ext σ τ'->Vs (avL xs) (sgL σ (avL ys))
 | [],τ,τ',xs,C,h,hC=>by
  unfold JD at h;split at h
  ·cases h;exact ⟨Ext.refl _,id,fun σ _=>Vs.nil⟩
  ·cases h
 | y::ys,τ,τ',xs,C,h,hC=>by
  unfold JD at h;split at h
  ·next x xs' =>
   split at h
   ·next C1 τ1 h1 =>
    split at h
    ·next C2 τ2 h2 =>
     cases h;obtain ⟨a1,a2,a3⟩:=Qkm y h1 (fun c hc=>hC c (Qxr _ hc));obtain ⟨b1,b2,b3⟩:=Vk ys h2 (fun c hc=>hC c (Qxq _ hc));refine ⟨b1.trans a1,fun ho=>b2 (a2 ho),fun σ hσ=>?_⟩;unfold avL sgL;exact Vs.cons (a3 σ (hσ.trans b1)) (b3 σ hσ)
    ·cases h
   ·cases h
  ·cases h
end
end
section
open Go.RowKit
mutual
theorem Qgh:∀ (y:EV) {τ τ':List (Nat×Nat)} {x:EV} {C:List Prop},fit τ x y=some (C,τ') -> ∀ σ,Ext σ τ'->y.av.inD σ=true
 | .any,τ,τ',x,C,h,σ,hσ=>by unfold EV.av AV.inD;rfl
 | .v b,τ,τ',x,C,h,σ,hσ=>by unfold EV.av AV.inD;rfl
 | .u8 c,τ,τ',x,C,h,σ,hσ=>by unfold EV.av AV.inD;rfl
 | .u32 c,τ,τ',x,C,h,σ,hσ=>by unfold EV.av AV.inD;rfl
 | .u64 c,τ,τ',x,C,h,σ,hσ=>by unfold EV.av AV.inD;rfl
 | .az _ _,τ,τ',x,C,h,σ,hσ=>by unfold EV.av AV.inD;rfl
 | .bs m,τ,τ',x,C,h,σ,hσ=>by unfold EV.av AV.inD;rfl
 | .lz _ _ _,τ,τ',x,C,h,σ,hσ=>by unfold EV.av AV.inD;rfl
 | .sl _ _,τ,τ',x,C,h,σ,hσ=>by unfold EV.av AV.inD;rfl
 | .pp _ _,τ,τ',x,C,h,σ,hσ=>by unfold EV.av AV.inD;rfl
 | .pb _ _,τ,τ',x,C,h,σ,hσ=>by unfold EV.av AV.inD;rfl
 | .pz _ _ _ _ _,τ,τ',x,C,h,σ,hσ=>by unfold EV.av AV.inD;rfl
 | .raw _,τ,τ',x,C,h,σ,hσ=>by unfold EV.av AV.inD;rfl
 | .fn _ _,τ,τ',x,C,h,σ,hσ=>by unfold EV.av AV.inD;rfl
 | .rp _,τ,τ',x,C,h,σ,hσ=>by unfold EV.av AV.inD;rfl
 | .mref q,τ,τ',x,C,h,σ,hσ=>by
  unfold fit at h;split at h
  ·next r =>
   cases ht:QdC τ q r with
   | none=>rw [ht] at h;cases h
   | some t =>
    rw [ht] at h;cases h;unfold EV.av AV.inD;exact (hσ q (WK ht).2.1).1
  ·cases h
 | .po q _ _ _,τ,τ',x,C,h,σ,hσ=>by
  unfold fit at h;split at h
  ·obtain ⟨_,h⟩:=QA h;split at h
   ·next t ht=>cases h;unfold EV.av AV.inD;exact (hσ q (WK ht).2.1).1
   ·cases h
  ·cases h
 | .oss _ _ _ _,τ,τ',x,C,h,σ,hσ=>by unfold fit at h;cases h
 | .cnd _ _,τ,τ',x,C,h,σ,hσ=>by unfold fit at h;cases h
 | .own q o',τ,τ',x,C,h,σ,hσ=>by
  unfold fit at h;split at h
  ·split at h
   ·next t ht=>cases h;unfold EV.av AV.inD;exact (hσ q (WK ht).2.1).1
   ·cases h
  ·cases h
 | .osl q n',τ,τ',x,C,h,σ,hσ=>by
  unfold fit at h;split at h
  ·split at h
   ·next t ht=>cases h;unfold EV.av AV.inD;exact (hσ q (WK ht).2.1).1
   ·cases h
  ·cases h
 | .agg m,τ,τ',x,C,h,σ,hσ=>by
  unfold fit at h;split at h
  ·unfold EV.av AV.inD;exact Qay m h σ hσ
  ·cases h
 | .tup m,τ,τ',x,C,h,σ,hσ=>by
  unfold fit at h;split at h
  ·unfold EV.av AV.inD;exact Qay m h σ hσ
  ·cases h
theorem Qay:∀ (ys:List EV) {τ τ':List (Nat×Nat)} {xs:List EV} {C:List Prop},JD τ xs ys=some (C,τ') -> ∀ σ,Ext σ τ'->Vf σ (avL ys)=true
 | [],τ,τ',xs,C,h,σ,hσ=>rfl
 | y::ys,τ,τ',xs,C,h,σ,hσ=>by
  unfold JD at h;split at h
  ·split at h
   ·next C1 τ1 h1 =>
    split at h
    ·next C2 τ2 h2 =>
     cases h;have e2:=Qaz ys h2;unfold avL Vf;rw [Qgh y h1 σ (hσ.trans e2),Qay ys h2 σ hσ];rfl
    ·cases h
   ·cases h
  ·cases h
theorem Qaz:∀ (ys:List EV) {τ τ':List (Nat×Nat)} {xs:List EV} {C:List Prop},JD τ xs ys=some (C,τ')->Ext τ' τ
 | [],τ,τ',xs,C,h=>by
  unfold JD at h;split at h
  ·cases h;exact Ext.refl _
  ·cases h
 | y::ys,τ,τ',xs,C,h=>by
  unfold JD at h;split at h
  ·split at h
   ·next C1 τ1 h1 =>
    split at h
    ·next C2 τ2 h2=>cases h;exact (Qaz ys h2).trans (QtE y h1)
    ·cases h
   ·cases h
  ·cases h
theorem QtE:∀ (y:EV) {τ τ':List (Nat×Nat)} {x:EV} {C:List Prop},fit τ x y=some (C,τ')->Ext τ' τ
 | .any,τ,τ',x,C,h=>by unfold fit at h;cases h;exact Ext.refl _
 | .v b,τ,τ',x,C,h=>by
  unfold fit at h;split at h
  ·split at h <;> cases h;exact Ext.refl _
  ·cases h
 | .u8 c,τ,τ',x,C,h=>by unfold fit at h;split at h <;> cases h;exact Ext.refl _
 | .u32 c,τ,τ',x,C,h=>by unfold fit at h;split at h <;> cases h;exact Ext.refl _
 | .u64 c,τ,τ',x,C,h=>by unfold fit at h;split at h <;> cases h;exact Ext.refl _
 | .az _ _,τ,τ',x,C,h=>by
  unfold fit at h;split at h
  ·cases h;exact Ext.refl _
  ·next l =>
   cases hs:shL l with
   | false=>rw [hs] at h;cases h
   | true=>rw [hs] at h;cases h;exact Ext.refl _
  ·cases h
 | .bs m,τ,τ',x,C,h=>by
  unfold fit at h;split at h
  ·cases h;exact Ext.refl _
  ·cases h;exact Ext.refl _
  ·split at h <;> cases h;exact Ext.refl _
  ·cases h
 | .lz n' sz' g,τ,τ',x,C,h=>by
  unfold fit at h;split at h
  ·next n sz f =>
   cases hb:Qxo sz sz' with
   | false=>rw [hb] at h;cases h
   | true=>rw [hb] at h;cases h;exact Ext.refl _
  ·cases h;exact Ext.refl _
  ·cases h;exact Ext.refl _
  ·cases h
 | .sl _ _,τ,τ',x,C,h=>by
  unfold fit at h;split at h
  ·cases h;exact Ext.refl _
  ·cases h;exact Ext.refl _
  ·cases h
 | .pp _ _,τ,τ',x,C,h=>by unfold fit at h;split at h <;> cases h <;> exact Ext.refl _
 | .pb _ _,τ,τ',x,C,h=>by unfold fit at h;cases h;exact Ext.refl _
 | .pz _ _ _ _ _,τ,τ',x,C,h=>by unfold fit at h;cases h;exact Ext.refl _
 | .raw _,τ,τ',x,C,h=>by unfold fit at h;cases h;exact Ext.refl _
 | .fn f' _,τ,τ',x,C,h=>by
  unfold fit at h;split at h
  ·next f c=>cases hb:Qxo f f' <;> rw [hb] at h <;> cases h;exact Ext.refl _
  ·cases h
 | .rp _,τ,τ',x,C,h=>by
  unfold fit at h;split at h
  ·cases h;exact Ext.refl _
  ·cases hb:x.sh <;> rw [hb] at h <;> cases h;exact Ext.refl _
 | .mref q,τ,τ',x,C,h=>by
  unfold fit at h;split at h
  ·next r =>
   cases ht:QdC τ q r with
   | none=>rw [ht] at h;cases h
   | some t=>rw [ht] at h;cases h;exact (WK ht).1
  ·cases h
 | .po q _ _ _,τ,τ',x,C,h=>by
  unfold fit at h;split at h
  ·obtain ⟨_,h⟩:=QA h;split at h
   ·next t ht=>cases h;exact (WK ht).1
   ·cases h
  ·cases h
 | .oss _ _ _ _,τ,τ',x,C,h=>by unfold fit at h;cases h
 | .cnd _ _,τ,τ',x,C,h=>by unfold fit at h;cases h
 | .own q o',τ,τ',x,C,h=>by
  unfold fit at h;split at h
  ·split at h
   ·next t ht=>cases h;exact (WK ht).1
   ·cases h
  ·cases h
 | .osl q n',τ,τ',x,C,h=>by
  unfold fit at h;split at h
  ·split at h
   ·next t ht=>cases h;exact (WK ht).1
   ·cases h
  ·cases h
 | .agg m,τ,τ',x,C,h=>by
  unfold fit at h;split at h
  ·exact Qaz m h
  ·cases h
 | .tup m,τ,τ',x,C,h=>by
  unfold fit at h;split at h
  ·exact Qaz m h
  ·cases h
end
def Qb0 (τ:List (Nat×Nat)):List Nat->List Nat->Option (List (Nat×Nat))
 | [],[]=>some τ
 | q'::qs',q::qs=>match QdC τ q' q with
  | some τ'=>Qb0 τ' qs' qs
  | none=>none
 | _,_=>none
def Qcl (τ:List (Nat×Nat)) (x:EB):EB->Option (List Prop×List (Nat×Nat))
 | .box m t'=>match x with
  | .box l t=>bif Qxo t t' then JD τ l m else none
  | _=>none
 | .rb m t' p'=>match x with
  | .rb l t p=>bif Qxo t t' then some ([l=m,p<=p'],τ) else none
  | .row c t sz p=>bif Qxo t t' && Qxo sz 1 then (match QeL c with
   | some l=>some ([l=m,p<=p'],τ)
   | none=>none) else none
  | _=>none
 | .row m t' sz' p'=>match x with
  | .row l t sz p=>bif Qxo t t' && Qxo sz sz' then some ([l=m,p<=p'],τ) else none
  | .box l t=>bif Qxo t t' && Qxo l.length sz' && shL l && QL l then some ([l=m],τ) else none
  | _=>none
 | .rz n' sz' g t' p'=>match x with
  | .rz n sz f t p=>bif Qxo t t' && Qxo sz sz' then some ([n=n',∀ i,i < n -> ∀ j,j < sz->f i j=g i j,p<=p'],τ) else none
  | .row l t sz p=>bif Qxo t t' && Qxo sz sz' then some ([l.length=n' * sz,∀ i,i < n' -> ∀ j,j < sz->l.getD (i * sz+j) .any=g i j,p<=p'],τ) else none
  | _=>none
 | .bz n' g t'=>match x with
  | .bz n f t=>bif Qxo t t' then some ([n=n',∀ i,i < n->f i=g i],τ) else none
  | .box l t=>bif Qxo t t' && shL l && QL l then some ((l.length=n')::Qkl g 0 l,τ) else none
  | _=>none
 | .mp es'=>match x with
  | .mp es=>some ([es=es'],τ)
  | _=>none
 | .it m' a' b' c'=>match x with
  | .it m a b c=>match QdC τ m' m with
   | some τ'=>some ([a=a',b=b',c=c'],τ')
   | none=>none
  | _=>none
 | .ra n' sz' g t' ns'=>match x with
  | .ra n sz f t ns=>bif Qxo t t' && Qxo sz sz' then (match Qb0 τ ns' ns with
   | some τ'=>some ([n=n',∀ i,i < n -> ∀ j,j < sz->f i j=g i j],τ')
   | none=>none) else none
  | .rz n sz f t p=>bif Qxo t t' && Qxo sz sz' && Qxo p 0 then (match Qb0 τ ns' ns' with
   | some τ'=>some ([n=n',n=0],τ')
   | none=>none) else none
  | _=>none
 | .dead=>none
theorem Qbz:∀ (ns' ns:List Nat) {τ τ':List (Nat×Nat)},Qb0 τ ns' ns=some τ'->Ext τ' τ/\(W3 τ=true->W3 τ'=true) /\ ∀ σ,Ext σ τ'->ns'.map (sg σ)=ns/\(ns'.all fun q=>Q6 q σ)=true
 | [],[],τ,τ',h=>by simp only [Qb0] at h;cases h;exact ⟨Ext.refl _,id,fun σ _=>⟨rfl,rfl⟩⟩
 | [],_::_,τ,τ',h=>by simp only [Qb0] at h;cases h
 | _::_,[],τ,τ',h=>by simp only [Qb0] at h;cases h
 | q'::qs',q::qs,τ,τ',h=>by
  simp only [Qb0] at h;split at h
  ·next t ht =>
   obtain ⟨a1,a2,a3,a4⟩:=WK ht;obtain ⟨b1,b2,b3⟩:=Qbz qs' qs h;refine ⟨b1.trans a1,fun k=>b2 (a4 k),fun σ hσ=>?_⟩;obtain ⟨c1,c2⟩:=b3 σ hσ;have e:=(hσ.trans b1) q' a2;refine ⟨?_,?_⟩
   ·rw [Qxt,c1,e.2,a3]
   ·rw [List.all_cons,c2,e.1];rfl
  ·cases h
theorem Qv9 {l:List EV} (h:shL l=true) (k:QL l=true):avL l=(pvL l).map AV.p:=by
 induction l with
 | nil=>rfl
 | cons x l ih =>
  simp only [shL,QL,Qxp] at h k;simp only [avL,pvL,Qxt];rw [ih h.2 k.2,Qki k.1 h.1]
theorem QnG (σ:List (Nat×Nat)) (l:List PV):Vf σ (l.map AV.p)=true:=by
 induction l with
 | nil=>rfl
 | cons x l ih=>simp only [Qxt,Vf,AV.inD,ih];rfl
def QaA (x y:OB):Prop:=x.alive=true /\ ∀ (w:World) (Pub:Nat->Nat->Prop) (φ:Qi) (r:Nat),Hp w Pub φ r x->Hp w Pub φ r y
theorem QaA.row {cells:List PV} {t:TypeId} {sz p p':Nat} (h:p<=p'):QaA (.row cells t sz p) (.row cells t sz p'):=by
 refine ⟨rfl,fun w Pub φ r k=>?_⟩;rcases k with k | ⟨b,c,cur,fr,k1,k2,k3,k4,k5,k6,k7,k8⟩
 ·exact .inl k
 ·exact .inr ⟨b,c,cur,fr,k1,k2,k3,k4,k5,k6,k7,fun i hi=>⟨Nat.lt_of_lt_of_le (k8 i hi).1 h,(k8 i hi).2⟩⟩
theorem QtF {τ τ':List (Nat×Nat)} {x y:EB} {C:List Prop} (h:Qcl τ x y=some (C,τ')) (hC:∀ c∈C,c) :
  Ext τ' τ/\(W3 τ=true->W3 τ'=true) /\ ∀ σ,Ext σ τ'->QaA x.ob (y.ob.sg σ)/\y.ob.inD σ=true:=by
 cases y with
 | box m t' =>
  simp only [Qcl] at h;split at h
  ·next l t =>
   cases hb:Qxo t t' with
   | false=>rw [hb] at h;cases h
   | true =>
    rw [hb] at h;simp only [cond_true] at h;have e:=Qc hb;subst e;obtain ⟨a1,a2,a3⟩:=Vk m h hC;refine ⟨a1,a2,fun σ hσ=>⟨⟨rfl,fun w Pub φ r k=>?_⟩,Qay m h σ hσ⟩⟩;obtain ⟨b,cur,k1,k2,k3,k4,k5⟩:=k;exact ⟨b,cur,k1,k2,(a3 σ hσ).R k3,k4,k5⟩
  ·cases h
 | rb m t' p' =>
  simp only [Qcl] at h;split at h
  ·next l t p =>
   cases hb:Qxo t t' with
   | false=>rw [hb] at h;cases h
   | true =>
    rw [hb] at h;cases h;have e:=Qc hb;subst e;have e1:=hC (l=m) (by simp);subst e1;exact ⟨Ext.refl _,id,fun σ _=>⟨QaA.row (hC (p<=p') (by simp)),rfl⟩⟩
  ·next c t sz p =>
   cases hb:Qxo t t' && Qxo sz 1 with
   | false=>rw [hb] at h;cases h
   | true =>
    rw [hb] at h;simp only [cond_true] at h;split at h
    ·next l hl =>
     cases h;simp only [Qxp] at hb;have e:=Qc hb.1;have e2:=Qc hb.2;subst e e2;have e1:=hC (l=m) (by simp);subst e1;refine ⟨Ext.refl _,id,fun σ _=>⟨?_,rfl⟩⟩;have k:=QaA.row (cells:=l.map b8P) (t:=t) (sz:=1) (hC (p<=p') (by simp));rw [<- (Xi hl).1] at k;have k2:QaA (EB.row c t 1 p).ob (.row (pvL c) t 1 p'):=k;rw [(Xi hl).1] at k2;exact k2
    ·cases h
  ·cases h
 | row m t' sz' p' =>
  simp only [Qcl] at h;split at h
  ·next l t sz p =>
   cases hb:Qxo t t' && Qxo sz sz' with
   | false=>rw [hb] at h;cases h
   | true =>
    rw [hb] at h;cases h;simp only [Qxp] at hb;have e:=Qc hb.1;have e2:=Qc hb.2;subst e e2;have e1:=hC (l=m) (by simp);subst e1;exact ⟨Ext.refl _,id,fun σ _=>⟨QaA.row (hC (p<=p') (by simp)),rfl⟩⟩
  ·next l t =>
   obtain ⟨hb,h⟩:=QA h;cases h;simp only [Qxp] at hb;have e1:=Qc hb.1.1.1;have e2:=Qc hb.1.1.2;subst e1 e2;have e1:=hC (l=m) (by simp);subst e1;refine ⟨Ext.refl _,id,fun σ _=>⟨⟨rfl,fun w Pub φ r k=>?_⟩,rfl⟩⟩;obtain ⟨b,cur,k1,k2,k3,k4,k5⟩:=k;have k6:=(ZT l _ hb.1.2).1 k3;have hlen:=Wi k6;rw [Qxu,Qk] at hlen;refine .inr ⟨b,1,cur,(0,0),k1,⟨k2,.inl rfl⟩,by unfold maxLen;omega,by omega,by rw [Qk];omega,?_,?_,fun i hi=>absurd hi (k5 i)⟩
   ·rw [Qxv (by rw [Qxu,Qk];omega)];exact k6
   ·rw [Qxv (by rw [Qxu,Qk];omega)];exact k4
  ·cases h
 | rz n' sz' g t' p' =>
  simp only [Qcl] at h;split at h
  ·next n sz f t p =>
   cases hb:Qxo t t' && Qxo sz sz' with
   | false=>rw [hb] at h;cases h
   | true =>
    rw [hb] at h;cases h;simp only [Qxp] at hb;have e:=Qc hb.1;have e2:=Qc hb.2;subst e e2;have e1:=hC (n=n') (by simp);subst e1;have e3:=hC (∀ i,i < n -> ∀ j,j < sz->f i j=g i j) (by simp);refine ⟨Ext.refl _,id,fun σ _=>⟨?_,rfl⟩⟩;show QaA (.row (lzC n sz f) t sz p) (.row (lzC n sz g) t sz p');rw [Yk e3];exact QaA.row (hC (p<=p') (by simp))
  ·next l t sz p =>
   cases hb:Qxo t t' && Qxo sz sz' with
   | false=>rw [hb] at h;cases h
   | true =>
    rw [hb] at h;cases h;simp only [Qxp] at hb;have e:=Qc hb.1;have e2:=Qc hb.2;subst e e2;have e1:=hC (l.length=n' * sz) (by simp);have e3:=hC (∀ i,i < n' -> ∀ j,j < sz->l.getD (i * sz+j) .any=g i j) (by simp);refine ⟨Ext.refl _,id,fun σ _=>⟨?_,rfl⟩⟩;show QaA (.row (pvL l) t sz p) (.row (lzC n' sz g) t sz p');rw [<- Qgf n' sz l e1,Yk e3];exact QaA.row (hC (p<=p') (by simp))
  ·cases h
 | bz n' g t' =>
  have go:∀ {n:Nat} {t:TypeId},t=t'->n=n'->x.ob=.box ((azC n g).map AV.p) t -> ∀ σ,QaA x.ob ((EB.bz n' g t').ob.sg σ)/\(EB.bz n' g t').ob.inD σ=true:=fun {n t} e1 e2 e3 σ=>by
   subst e1 e2;refine ⟨?_,QnG σ _⟩
   have e4:(EB.bz n g t).ob.sg σ=.box ((azC n g).map AV.p) t:=by
    show OB.box (sgL σ ((azC n g).map AV.p)) t=_;rw [QhN]
   rw [e4,e3];exact ⟨rfl,fun w Pub φ r k=>k⟩
  simp only [Qcl] at h;split at h
  ·next n f t =>
   cases hb:Qxo t t' with
   | false=>rw [hb] at h;cases h
   | true =>
    rw [hb] at h;cases h;have e1:=hC (n=n') (by simp);have e2:=hC (∀ i,i < n->f i=g i) (by simp);refine ⟨Ext.refl _,id,fun σ _=>go (Qc hb) e1 ?_ σ⟩;have e3:azC n f=azC n g:=Qxs fun i hi=>by rw [e2 i (List.mem_range.1 hi)]
    show OB.box ((azC n f).map AV.p) t=_;rw [e3]
  ·next l t =>
   cases hb:Qxo t t' && shL l && QL l with
   | false=>rw [hb] at h;cases h
   | true =>
    rw [hb] at h;cases h;simp only [Qxp] at hb;have e1:=hC (l.length=n') (by simp);refine ⟨Ext.refl _,id,fun σ _=>go (Qc hb.1.1) e1 ?_ σ⟩;show OB.box (avL l) t=_;rw [Qv9 hb.1.2 hb.2,QlY (g:=g) fun c hc=>hC c (List.mem_cons_of_mem _ hc)]
  ·cases h
 | mp es' =>
  simp only [Qcl] at h;split at h
  ·next es =>
   cases h;have e1:=hC (es=es') (by simp);subst e1;exact ⟨Ext.refl _,id,fun σ _=>⟨⟨rfl,fun w Pub φ r k=>k⟩,rfl⟩⟩
  ·cases h
 | it m' a' b' c' =>
  simp only [Qcl] at h;split at h
  ·next m a b c =>
   split at h
   ·next t ht =>
    cases h;have e1:=hC (a=a') (by simp);have e2:=hC (b=b') (by simp);have e3:=hC (c=c') (by simp);subst e1 e2 e3;obtain ⟨a1,a2,a3,a4⟩:=WK ht;refine ⟨a1,a4,fun σ hσ=>?_⟩
    have e4:(EB.it m' a b c).ob.sg σ=(EB.it m a b c).ob:=by
     show OB.it (sg σ m') _ _ _=OB.it m _ _ _;rw [(hσ m' a2).2,a3]
    rw [e4];exact ⟨⟨rfl,fun w Pub φ r k=>k⟩,(hσ m' a2).1⟩
   ·cases h
  ·cases h
 | ra n' sz' g t' ns' =>
  simp only [Qcl] at h;split at h
  ·next n sz f t ns =>
   cases hb:Qxo t t' && Qxo sz sz' with
   | false=>rw [hb] at h;cases h
   | true =>
    rw [hb] at h;simp only [cond_true] at h;rw [Qxp] at hb;have e1:=Qc hb.1;have e2:=Qc hb.2;subst e1 e2;split at h
    ·next τ1 h1 =>
     cases h;have e1:=hC (n=n') (by simp);have e2:=hC (∀ i,i < n -> ∀ j,j < sz->f i j=g i j) (by simp);subst e1;obtain ⟨a1,a2,a3⟩:=Qbz _ _ h1;refine ⟨a1,a2,fun σ hσ=>?_⟩;obtain ⟨b1,b2⟩:=a3 σ hσ
     have e:(EB.ra n sz g t ns').ob.sg σ=(EB.ra n sz f t ns).ob:=by
      show OB.ra _ _ _ (ns'.map (sg σ))=OB.ra _ _ _ _;rw [b1];congr 1;exact JT fun i hi j hj=>(congrArg EV.av (e2 i hi j hj)).symm
     rw [e];exact ⟨⟨rfl,fun w Pub φ r k=>k⟩,b2⟩
    ·cases h
  ·next n sz f t p =>
   cases hb:Qxo t t' && Qxo sz sz' && Qxo p 0 with
   | false=>rw [hb] at h;cases h
   | true =>
    rw [hb] at h;simp only [cond_true] at h;simp only [Qxp] at hb;have e1:=Qc hb.1.1;have e2:=Qc hb.1.2;have e3:=Qc hb.2;subst e1 e2 e3;split at h
    ·next τ1 h1 =>
     cases h;have e1:=hC (n=n') (by simp);have e2:=hC (n=0) (by simp);subst e1 e2;obtain ⟨a1,a2,a3⟩:=Qbz _ _ h1;refine ⟨a1,a2,fun σ hσ=>⟨⟨rfl,fun w Pub φ r k=>?_⟩,(a3 σ hσ).2⟩⟩;rcases k with ⟨k1,k2⟩ | ⟨b,c,cur,fr,k1,k2,k3,k4,k5,k6,k7,k8⟩
     ·exact .inl ⟨k1,rfl⟩
     ·exact .inr ⟨b,c,cur,fr,k1,k2,k3,k4,k5,by unfold RAs;rfl,by intro u hu;simp at hu,fun i hp=>by have:=(k8 i hp).1;omega⟩
    ·cases h
  ·cases h
 | dead=>simp only [Qcl] at h;cases h
def QpV (sl:List (Nat×EV)) (τ:List (Nat×Nat)):List (Nat×EV)->Option (List Prop×List (Nat×Nat))
 | []=>some ([],τ)
 | (s,y)::ys=>match fit τ (look .any sl s) y with
  | some (C,τ')=>match QpV sl τ' ys with
   | some (C',τ'')=>some (C++C',τ'')
   | none=>none
  | none=>none
def QeM (hp:List (Nat×EB)) (τ:List (Nat×Nat)):List (Nat×EB)->Option (List Prop×List (Nat×Nat))
 | []=>some ([],τ)
 | (q,y)::ys=>bif Q6 q τ then (match Qcl τ (look .dead hp (sg τ q)) y with
  | some (C,τ')=>match QeM hp τ' ys with
   | some (C',τ'')=>some (C++C',τ'')
   | none=>none
  | none=>none) else none
def Qkn (kp:List Nat) (σ:List (Nat×Nat)):Bool:=kp.all fun q=>!Q6 q σ || Qxo (sg σ q) q
theorem QlZ {sl:List (Nat×EV)}:∀ {ys:List (Nat×EV)} {τ τ':List (Nat×Nat)} {C:List Prop},QpV sl τ ys=some (C,τ')->(∀ c∈C,c) ->
  Ext τ' τ/\(W3 τ=true->W3 τ'=true) /\ ∀ σ,Ext σ τ' -> ∀ s,Gv (look .any sl s).av ((look .any ys s).av.sg σ)/\(look .any ys s).av.inD σ=true
 | [],τ,τ',C,h,hC=>by
  unfold QpV at h;cases h;exact ⟨Ext.refl _,id,fun σ _ s=>⟨by simp only [look];unfold EV.av AV.sg;exact Gv.any,by simp only [look];unfold EV.av AV.inD;rfl⟩⟩
 | (s0,y)::ys,τ,τ',C,h,hC=>by
  unfold QpV at h;split at h
  ·next C1 τ1 h1 =>
   split at h
   ·next C2 τ2 h2 =>
    cases h;obtain ⟨a1,a2,a3⟩:=Qkm y h1 (fun c hc=>hC c (Qxr _ hc));obtain ⟨b1,b2,b3⟩:=QlZ h2 (fun c hc=>hC c (Qxq _ hc));refine ⟨b1.trans a1,fun ho=>b2 (a2 ho),fun σ hσ s=>?_⟩;rw [Qb];split
    ·next e=>subst e;exact ⟨a3 σ (hσ.trans b1),Qgh y h1 σ (hσ.trans b1)⟩
    ·exact b3 σ hσ s
   ·cases h
  ·cases h
theorem Qcs {hp:List (Nat×EB)}:∀ {ys:List (Nat×EB)} {τ τ':List (Nat×Nat)} {C:List Prop},QeM hp τ ys=some (C,τ')->(∀ c∈C,c) ->
  Ext τ' τ/\(W3 τ=true->W3 τ'=true) /\ ∀ σ,Ext σ τ'->Y4 σ (obs ys)=true /\ ∀ q,(look EB.dead ys q).alive=true->QaA (look EB.dead hp (sg σ q)).ob ((look EB.dead ys q).ob.sg σ)
 | [],τ,τ',C,h,hC=>by
  unfold QeM at h;cases h;exact ⟨Ext.refl _,id,fun σ _=>⟨rfl,fun q hq=>by simp [look,EB.alive] at hq⟩⟩
 | (q0,y)::ys,τ,τ',C,h,hC=>by
  unfold QeM at h
  cases hd:Q6 q0 τ with
  | false=>rw [hd] at h;cases h
  | true =>
   rw [hd] at h;simp only [cond_true] at h;split at h
   ·next C1 τ1 h1 =>
    split at h
    ·next C2 τ2 h2 =>
     cases h;obtain ⟨a1,a2,a3⟩:=QtF h1 (fun c hc=>hC c (Qxr _ hc));obtain ⟨b1,b2,b3⟩:=Qcs h2 (fun c hc=>hC c (Qxq _ hc));refine ⟨b1.trans a1,fun ho=>b2 (a2 ho),fun σ hσ=>?_⟩;obtain ⟨c1,c2⟩:=b3 σ hσ;obtain ⟨d1,d2⟩:=a3 σ (hσ.trans b1);have hq:=(hσ.trans b1).trans a1 q0 hd;refine ⟨by simp only [obs,Y4,Qxp];exact ⟨⟨hq.1,d2⟩,c1⟩,fun q hal=>?_⟩;rw [Qb] at hal ⊢;by_cases e:q0=q
     ·subst e;rw [if_pos rfl,hq.2];exact d1
     ·rw [if_neg e] at hal ⊢;exact c2 q hal
    ·cases h
   ·cases h
section
variable {E:Env} {kp:List Nat} {n:Nat}
theorem Inv.ren {φ:Qi} {Pub:Nat->Nat->Prop} {h h':List (Nat×OB)} {w:World} {σ:List (Nat×Nat)} (I:Inv E kp φ Pub h w) (ho:W3 σ=true) (hk:Qkn kp σ=true) (hi:Y4 σ h'=true)
  (hb:∀ q,(look OB.dead h' q).alive=true->QaA (look OB.dead h (sg σ q)) ((look OB.dead h' q).sg σ)):Inv E kp (fun q=>if Q6 q σ=true then φ (sg σ q) else φ q) Pub h' w:=by
 have H:∀ q,Q6 q σ=true->φ (sg σ q)=(fun q=>if Q6 q σ=true then φ (sg σ q) else φ q) q:=fun q hq=>(if_pos hq).symm;have hd:∀ q,(look OB.dead h' q).alive=true->Q6 q σ=true:=fun q hq=>(Zp hi).2 hq;refine I.next rfl rfl rfl (Nat.le_refl _) (fun _ _ _=>rfl) (Adv.refl _ _) (fun _ _ hp=>.inl hp) I.publ (fun q hq=>?_) (fun q b c hq e=>?_) (fun q q' b c c' hq hq' e e'=>?_) (fun q hq=>?_)
 ·have k:=(hb q hq).2 w Pub φ (sg σ q) (I.own (sg σ q));exact (Qpn H (hd q hq) (Zp hi).1).1 k
 ·simp only [if_pos (hd q hq)] at e;exact I.mine (sg σ q) b c (hb q hq).1 e
 ·simp only [if_pos (hd q hq)] at e;simp only [if_pos (hd q' hq')] at e';have:=I.inj (sg σ q) (sg σ q') b c c' (hb q hq).1 (hb q' hq').1 e e';have k1:=Z8 ho (hd q hq);rw [this,Z8 ho (hd q' hq')] at k1;injection k1 with k1;exact k1.symm
 ·unfold Qkn at hk;have:=List.all_eq_true.1 hk q hq;simp only [Bool.or_eq_true,Bool.not_eq_true'] at this;rcases this with h1 | h1
  ·simp [h1]
  ·have:=Qc h1;by_cases hdq:Q6 q σ=true
   ·rw [if_pos hdq,this]
   ·rw [if_neg hdq]
def wkF (kp:List Nat) (st st':ES):Option (List Prop) :=
 match QpV st.slots [] st'.slots with
 | some (C,τ)=>match QeM st.heap τ st'.heap with
  | some (C',σ)=>bif Qkn kp σ then some (C++C') else none
  | none=>none
 | none=>none
theorem Qwa {st st':ES} {C:List Prop} (h:wkF kp st st'=some C) (hC:∀ c∈C,c):Wk E kp n st.as st'.as:=by
 unfold wkF at h;split at h
 ·next C1 τ h1 =>
  split at h
  ·next C2 σ h2 =>
   cases hk:Qkn kp σ with
   | false=>rw [hk] at h;cases h
   | true =>
    rw [hk] at h;cases h;obtain ⟨a1,a2,a3⟩:=QlZ h1 (fun c hc=>hC c (Qxr _ hc));obtain ⟨b1,b2,b3⟩:=Qcs h2 (fun c hc=>hC c (Qxq _ hc));have ho:W3 σ=true:=b2 (a2 rfl);obtain ⟨c1,c2⟩:=b3 σ (Ext.refl _);rintro a w ⟨φ,Pub,I,h0,hn,hsl⟩;refine ⟨_,Pub,I.ren ho hk c1 (fun q hq=>?_),h0,hn,fun s=>?_⟩
    ·have e:look OB.dead st'.as.heap q=(look EB.dead st'.heap q).ob:=Q9 _ _;have e2:look OB.dead st.as.heap (sg σ q)=(look EB.dead st.heap (sg σ q)).ob:=Q9 _ _;have hq':(look OB.dead st'.as.heap q).alive=true:=hq;rw [e,ZS] at hq';have g:=c2 q hq';rw [<- e,<- e2] at g;exact g
    ·obtain ⟨g1,g2⟩:=a3 σ b1 s;have e:look AV.any st'.as.slots s=(look EV.any st'.slots s).av:=Q8 _ _;have e2:look AV.any st.as.slots s=(look EV.any st.slots s).av:=Q8 _ _;rw [e];have k:=hsl s;rw [e2] at k;exact (Qde (ψ:=φ) (fun q hq=>(if_pos hq).symm) _ _ g2).1 (g1 _ _ _ _ k)
  ·cases h
 ·cases h
end
end
end Go.Proofs.YtcebndkiagbddaaGreatDoor
