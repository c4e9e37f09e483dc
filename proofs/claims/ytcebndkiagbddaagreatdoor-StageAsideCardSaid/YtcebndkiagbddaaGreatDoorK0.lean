/- A part of the proof: contracts of functions and what they stand on. Written shorter and merged by a program (pack.py). -/
import Derived.Lib.SplitLaws
import Derived.Lib.IndexBytes
import Derived.Lib.Join
import Derived.Lib.ItoaNum
import Derived.Lib.Bytealg
set_option linter.unusedVariables false
set_option linter.unusedSimpArgs false
set_option maxRecDepth 100000
set_option maxHeartbeats 4000000
open List renaming getD_eq_getElem?_getD → Qy3, length_cons → Qy4, getElem?_eq_getElem → Qy5, mem_cons → Qy6, all_cons → Qy9, mem_cons_of_mem → Qzd, all_append → Qze, length_append → Qzg, append_assoc → Qzi, all_eq_true → Qzk, take_length → Qzl, take_succ_eq_append_getElem → Qzm, nil_append → Qzn, count_cons_of_ne → Qzx, count_cons_self → Qzz, map_congr_left → QzA
open UInt8 renaming ofNat → Qy7
open Nat renaming mod_lt → Qy8, testBit_lt_two_pow → Qza, pow_le_pow_right → Qzb, two_pow_pos → Qzf, testBit_mul_two_pow → Qzh, dvd_of_mod_eq_zero → Qzj, eq_of_testBit_eq → Qzo, lt_of_lt_of_le → Qzp, testBit_div_two_pow → Qzr, testBit_mod_two_pow → Qzs, strongRecOn → Qzt, div_add_mod → Qzu, pow_dvd_pow → Qzv, mod_eq_zero_of_dvd → Qzw, add_zero → QzB, mul_comm → QzC
open Bool renaming and_eq_true → Qzc, and_false → Qzy
open Int renaming toNat_natCast → Qzq
namespace Go.Proofs.YtcebndkiagbddaaGreatDoor
section
def spl (c:UInt8):List UInt8→List (List UInt8)
 | []=>[[]]
 | b::l=>if b=c then []::spl c l else match spl c l with
  | []=>[[b]]
  | x::xs=>(b::x)::xs
theorem Qib (c:UInt8):∀ l,∃ x xs,spl c l=x::xs
 | []=>⟨[],[],rfl⟩
 | b::l=>by
  unfold spl;split
  ·exact ⟨_,_,rfl⟩
  ·split
   ·exact ⟨_,_,rfl⟩
   ·exact ⟨_,_,rfl⟩
theorem QeX {c:UInt8} (l:List UInt8):spl c (c::l)=[]::spl c l:=by rw [spl,if_pos rfl]
theorem VZ {b c:UInt8} (h:b≠c) {l x xs} (e:spl c l=x::xs):spl c (b::l)=(b::x)::xs:=by rw [spl,if_neg h,e]
theorem Qeu (c:UInt8):∀ l,(spl c l).length=l.count c+1
 | []=>rfl
 | b::l=>by
  by_cases h:b=c
  ·subst h;rw [QeX,Qy4,Qeu b l,Qzz]
  ·obtain ⟨x,xs,e⟩:=Qib c l;have:=Qeu c l;rw [VZ h e,Qy4,Qzx (by simpa using h)];rw [e,Qy4] at this;exact this
theorem Qpz (c:UInt8) (l:List UInt8):Lib.index (c::l) [c]=((0:Nat):Int):=by rw [Lib.index];simp [List.isPrefixOf]
theorem QpA {b c:UInt8} (h:b≠c) (l:List UInt8):Lib.index (b::l) [c]=if Lib.index l [c] == -1 then -1 else Lib.index l [c]+1:=by
 have hp:([c]:List UInt8).isPrefixOf (b::l)=false:=by simp [List.isPrefixOf,Ne.symm h]
 rw [Lib.index,hp];simp
theorem QeY (c:UInt8):∀ l:List UInt8,Lib.splitK [c] 0 (l.count c) l=spl c l
 | []=>rfl
 | b::l=>by
  have ih:=QeY c l;by_cases h:b=c
  ·subst h;rw [Qzz,QeX,Lib.splitK,Qpz,← ih];simp
  ·obtain ⟨x,xs,e⟩:=Qib c l;rw [VZ h e,Qzx (by simpa using h)];rw [e] at ih
   cases hk:l.count c with
   | zero =>
    rw [hk,Lib.splitK] at ih;cases ih;rfl
   | succ k =>
    rw [hk,Lib.splitK] at ih
    have hm:¬ Lib.index l [c] = -1:=fun q=>by
     have:=Lib.count_miss q;rw [Lib.count_one] at this;omega
    have hge:=Lib.index_ge l [c];rw [if_neg (fun q=>hm (beq_iff_eq.1 q))] at ih;obtain ⟨j,hj⟩:∃ j:Nat,Lib.index l [c]=j:=⟨(Lib.index l [c]).toNat,by omega⟩;have e1:Lib.index (b::l) [c]=((j+1:Nat):Int):=by rw [QpA h,if_neg (fun q=>hm (beq_iff_eq.1 q)),hj];omega
    rw [Lib.splitK,e1,if_neg (by simp;omega)];rw [hj] at ih;simp only [Qzq,QzB,List.length_singleton] at ih ⊢;rw [List.take_succ_cons,List.drop_succ_cons];cases ih;rfl
theorem Qmj (c:UInt8) (s:ByteArray):(Lib.splitB ⟨#[c]⟩ 0 (Lib.countB s ⟨#[c]⟩) s).map (·.data.toList)=spl c s.data.toList:=by
 rw [Lib.splitB_data];show Lib.splitK [c] 0 (Lib.count s.data.toList [c]) s.data.toList=_;rw [Lib.count_one,QeY]
theorem Wo (x y:List UInt8) (r:List (List UInt8)) (sep:List UInt8):Lib.join (x::y::r) sep=x++sep++Lib.join (y::r) sep:=by
 rw [Lib.join_cons,Lib.join_cons];simp [Lib.joinTail,Qzi]
theorem QeZ (c:UInt8):∀ l,Lib.join (spl c l) [c]=l
 | []=>Lib.join_one _ _
 | b::l=>by
  have ih:=QeZ c l;obtain ⟨x,xs,e⟩:=Qib c l;by_cases h:b=c
  ·subst h;rw [QeX,e,Wo,← e,ih];rfl
  ·rw [VZ h e];rw [e,Lib.join_cons] at ih;rw [Lib.join_cons,List.cons_append,ih]
theorem QnW {c:UInt8}:∀ {x:List UInt8} (t:List UInt8),c ∉ x→spl c (x++c::t)=x::spl c t
 | [],t,_=>QeX t
 | b::x,t,h=>by
  rw [Qy6,not_or] at h;exact VZ (fun e=>h.1 e.symm) (QnW t h.2)
theorem QjM {c:UInt8}:∀ {x:List UInt8},c ∉ x→spl c x=[x]
 | [],_=>rfl
 | b::x,h=>by
  rw [Qy6,not_or] at h;exact VZ (fun e=>h.1 e.symm) (QjM h.2)
theorem Qe0 {c:UInt8}:∀ {L:List (List UInt8)},L≠[]→(∀ x∈L,c ∉ x)→spl c (Lib.join L [c])=L
 | [],h,_=>absurd rfl h
 | [x],_,h=>by rw [Lib.join_one];exact QjM (h x (by simp))
 | x::y::r,_,h=>by
  rw [Wo,Qzi,List.singleton_append,QnW _ (h x (by simp)),Qe0 (by simp) (fun z hz=>h z (Qzd _ hz))]
def bef (c:UInt8):List UInt8→List UInt8
 | []=>[]
 | b::l=>if b=c then [] else b::bef c l
def aft (c:UInt8):List UInt8→List UInt8
 | []=>[]
 | b::l=>if b=c then l else aft c l
theorem Vq {c:UInt8}:∀ {l:List UInt8},c∈l→bef c l++c::aft c l=l
 | b::l,h=>by
  unfold bef aft;by_cases e:b=c
  ·rw [if_pos e,if_pos e,e];rfl
  ·rw [if_neg e,if_neg e,List.cons_append,Vq (by
    rcases Qy6.1 h with h | h
    ·exact absurd h.symm e
    ·exact h)]
theorem Qic {c:UInt8}:∀ {k:List UInt8} (v:List UInt8),c ∉ k→bef c (k++c::v)=k
 | [],v,_=>by show bef c (c::v)=[];rw [bef,if_pos rfl]
 | b::k,v,h=>by
  rw [Qy6,not_or] at h;show bef c (b::(k++c::v))=_;rw [bef,if_neg (fun e=>h.1 e.symm),Qic v h.2]
theorem Qid {c:UInt8}:∀ {k:List UInt8} (v:List UInt8),c ∉ k→aft c (k++c::v)=v
 | [],v,_=>by show aft c (c::v)=v;rw [aft,if_pos rfl]
 | b::k,v,h=>by
  rw [Qy6,not_or] at h;show aft c (b::(k++c::v))=_;rw [aft,if_neg (fun e=>h.1 e.symm),Qid v h.2]
theorem Qrq {c:UInt8}:∀ {l:List UInt8},c∈l→Lib.indexByte l c=((bef c l).length:Int)
 | b::l,h=>by
  unfold Lib.indexByte bef;by_cases e:b=c
  ·rw [if_pos (beq_iff_eq.2 e),if_pos e];rfl
  ·have hm:c∈l:=by
    rcases Qy6.1 h with h | h
    ·exact absurd h.symm e
    ·exact h
   have ih:=Qrq hm;rw [if_neg (fun q=>e (beq_iff_eq.1 q)),if_neg e,ih,if_neg (by simp),Qy4];omega
theorem QnX {c:UInt8}:∀ {l:List UInt8},c ∉ l→Lib.indexByte l c = -1
 | [],_=>rfl
 | b::l,h=>by
  rw [Qy6,not_or] at h;unfold Lib.indexByte;rw [if_neg (fun q=>h.1 (beq_iff_eq.1 q).symm),QnX h.2];rfl
theorem Qe1 (c:UInt8):∀ l:List UInt8,(bef c l).length≤l.length
 | []=>Nat.le_refl _
 | b::l=>by
  have:=Qe1 c l;unfold bef;split
  ·simp
  ·simp;exact this
theorem Qrr {c:UInt8} {l:List UInt8} (h:c∈l):l.take (bef c l).length=bef c l:=by
 have e:=Vq h
 calc l.take (bef c l).length=(bef c l++c::aft c l).take (bef c l).length:=by rw [e]
  _=bef c l:=List.take_left
theorem Qrs {c:UInt8} {l:List UInt8} (h:c∈l):l.drop ((bef c l).length+1)=aft c l:=by
 have e:=Vq h
 have:(bef c l++c::aft c l).drop ((bef c l).length+1)=aft c l:=by
  rw [List.drop_append];simp
 rw [e] at this;exact this
theorem Qie {c:UInt8}:∀ {l:List UInt8},c ∉ l→bef c l=l
 | [],_=>rfl
 | b::l,h=>by
  rw [Qy6,not_or] at h;rw [bef,if_neg (fun e=>h.1 e.symm),Qie h.2]
theorem Qev {c:UInt8}:∀ {l:List UInt8},c ∉ l→aft c l=[]
 | [],_=>rfl
 | b::l,h=>by
  rw [Qy6,not_or] at h;rw [aft,if_neg (fun e=>h.1 e.symm),Qev h.2]
def okK (c:UInt8):Bool:=(decide (97≤c.toNat) && decide (c.toNat≤122)) || decide (c.toNat=95)
def okV (c:UInt8):Bool:=decide (33≤c.toNat) && decide (c.toNat≤126)
def lnC (k v:List UInt8):Int :=
 if k.length < 1∨30 < k.length∨70 < v.length then 1 else if k.all okK && v.all okV then 0 else 3
theorem Qif {k v:List UInt8} (h:lnC k v=0):1≤k.length∧k.length≤30∧v.length≤70∧k.all okK=true∧v.all okV=true:=by
 unfold lnC at h;split at h
 ·cases h
 ·split at h
  ·rename_i h1 h2
   rw [Qzc] at h2;exact ⟨by omega,by omega,by omega,h2.1,h2.2⟩
  ·cases h
theorem Qe2 {l:List UInt8} {i:Nat} (h:i < l.length):l.getD i 0∈l:=by
 rw [Qy3,Qy5 h];exact List.getElem_mem h
theorem QxB {c:UInt8} (h:(c.toNat < 97∨122 < c.toNat)∧¬ c=95):okK c=false:=by
 unfold okK;have e:¬ c.toNat=95:=fun q=>h.2 (UInt8.toNat_inj.1 q);rw [decide_eq_false e,Bool.or_false];rcases h.1 with k | k
 ·rw [decide_eq_false (by omega:¬ 97≤c.toNat)];rfl
 ·rw [decide_eq_false (by omega:¬ c.toNat≤122),Qzy]
theorem QuO {c:UInt8} (h:¬ ((c.toNat < 97∨122 < c.toNat)∧¬ c=95)):okK c=true:=by
 unfold okK;by_cases e:c=95
 ·subst e;rfl
 ·have:¬ (c.toNat < 97∨122 < c.toNat):=fun k=>h ⟨k,e⟩;rw [decide_eq_true (by omega:97≤c.toNat),decide_eq_true (by omega:c.toNat≤122)];rfl
theorem QxC {c:UInt8} (h:c.toNat≤32∨126 < c.toNat):okV c=false:=by
 unfold okV;rcases h with k | k
 ·rw [decide_eq_false (by omega:¬ 33≤c.toNat)];rfl
 ·rw [decide_eq_false (by omega:¬ c.toNat≤126),Qzy]
theorem QuP {c:UInt8} (h:¬ (c.toNat≤32∨126 < c.toNat)):okV c=true:=by
 unfold okV;rw [decide_eq_true (by omega:33≤c.toNat),decide_eq_true (by omega:c.toNat≤126)];rfl
theorem Qa3 {c:UInt8}:∀ {l:List UInt8} {x:List UInt8},x∈spl c l→x.length≤l.length
 | [],x,h=>by unfold spl at h;simp at h;rw [h];exact Nat.le_refl _
 | b::l,x,h=>by
  by_cases e:b=c
  ·subst e;rw [QeX] at h;rcases Qy6.1 h with rfl | h
   ·exact Nat.zero_le _
   ·have:=Qa3 h;simp only [Qy4];omega
  ·obtain ⟨y,ys,k⟩:=Qib c l;rw [VZ e k] at h;rcases Qy6.1 h with rfl | h
   ·have:y∈spl c l:=by rw [k];simp
    have:=Qa3 this;simp only [Qy4];omega
   ·have:x∈spl c l:=by rw [k];exact Qzd _ h
    have:=Qa3 this;simp only [Qy4];omega
theorem Qrt {c:UInt8} {l:List UInt8} (i:Nat):((spl c l).getD i []).length≤l.length:=by
 rw [Qy3]
 cases h:(spl c l)[i]? with
 | none=>exact Nat.zero_le _
 | some x=>exact Qa3 (List.mem_of_getElem? h)
theorem Qru {k v:List UInt8} {i:Nat} (h:¬ (k.length < 1∨30 < k.length∨70 < v.length)) (hi:i < k.length) (hb:okK (k.getD i 0)=false):lnC k v=3:=by
 unfold lnC;rw [if_neg h]
 cases ha:k.all okK with
 | false=>rfl
 | true=>rw [Qzk] at ha;rw [ha _ (Qe2 hi)] at hb;cases hb
theorem Qrv {k v:List UInt8} {i:Nat} (h:¬ (k.length < 1∨30 < k.length∨70 < v.length)) (hi:i < v.length) (hb:okV (v.getD i 0)=false):lnC k v=3:=by
 unfold lnC;rw [if_neg h]
 cases ha:v.all okV with
 | false=>rw [Qzy];rfl
 | true=>rw [Qzk] at ha;rw [ha _ (Qe2 hi)] at hb;cases hb
theorem Qrw {k v:List UInt8} (h:¬ (k.length < 1∨30 < k.length∨70 < v.length)) (h1:(k.take k.length).all okK=true) (h2:(v.take v.length).all okV=true):lnC k v=0:=by
 rw [Qzl] at h1 h2;unfold lnC;rw [if_neg h,h1,h2];rfl
theorem Qe3 {f:UInt8→Bool} {l:List UInt8} {i:Nat} (h:i < l.length) (h1:(l.take i).all f=true) (h2:f (l.getD i 0)=true):(l.take (i+1)).all f=true:=by
 rw [List.take_add_one,Qze,h1,Qy5 h];rw [Qy3,Qy5 h] at h2;simpa using h2
abbrev LnP:=List UInt8×List UInt8
def lnR (acc:List LnP) (i:Nat):List (List UInt8)→List LnP×Int×Int
 | []=>(acc,0,0)
 | t::ts=>if (61:UInt8)∈t then (if lnC (bef 61 t) (aft 61 t)=0 then lnR (acc++[(bef 61 t,aft 61 t)]) (i+1) ts else ([],(i:Int)+1,lnC (bef 61 t) (aft 61 t))) else ([],(i:Int)+1,3)
def Qy (s:List UInt8):List LnP×Int×Int :=
 if 3000 < s.length then ([],0,1) else if s=[] then ([],0,0) else if 60 < (spl 10 s).length then ([],0,1) else lnR [] 0 (spl 10 s)
abbrev V0 (t:List UInt8):LnP:=(bef 61 t,aft 61 t)
abbrev YG (x:LnP):List UInt8:=x.1++61::x.2
theorem QxD {L:List (List UInt8)} {i:Nat} (h:i < L.length) (acc:List LnP):lnR acc i (L.drop i) =
  if (61:UInt8)∈L.getD i [] then (if lnC (bef 61 (L.getD i [])) (aft 61 (L.getD i []))=0 then lnR (acc++[V0 (L.getD i [])]) (i+1) (L.drop (i+1)) else ([],(i:Int)+1,lnC (bef 61 (L.getD i [])) (aft 61 (L.getD i [])))) else ([],(i:Int)+1,3):=by
 rw [List.drop_eq_getElem_cons h,lnR,Qy3,Qy5 h];rfl
theorem QuQ {L:List (List UInt8)} (acc:List LnP):lnR acc L.length (L.drop L.length)=(acc,0,0):=by rw [List.drop_length,lnR]
theorem QpB {L:List (List UInt8)} {i:Nat} (h:i < L.length):(L.take (i+1)).map V0=(L.take i).map V0++[V0 (L.getD i [])]:=by
 rw [List.take_add_one,Qy5 h,List.map_append,Qy3,Qy5 h];rfl
theorem Qa4:∀ (L:List (List UInt8)) (acc:List LnP) (i:Nat),
  (lnR acc i L=(acc++L.map V0,0,0) ∧ ∀ t∈L,(61:UInt8)∈t∧lnC (bef 61 t) (aft 61 t)=0)∨(∃ n e:Int,lnR acc i L=([],n,e)∧e≠0∧(i:Int) < n∧n≤i+L.length)
 | [],acc,i=>.inl ⟨by simp [lnR],fun t h=>by cases h⟩
 | t::ts,acc,i=>by
  unfold lnR;by_cases h:(61:UInt8)∈t
  ·rw [if_pos h];by_cases k:lnC (bef 61 t) (aft 61 t)=0
   ·rw [if_pos k];rcases Qa4 ts (acc++[V0 t]) (i+1) with ⟨e,q⟩ | ⟨n,e,h1,h2,h3,h4⟩
    ·left;rw [e];refine ⟨by simp,fun x hx=>?_⟩;rcases Qy6.1 hx with rfl | hx
     ·exact ⟨h,k⟩
     ·exact q x hx
    ·right;exact ⟨n,e,h1,h2,by omega,by simp only [Qy4];omega⟩
   ·rw [if_neg k];exact .inr ⟨_,_,rfl,k,by omega,by simp only [Qy4];omega⟩
  ·rw [if_neg h];exact .inr ⟨_,_,rfl,by decide,by omega,by simp only [Qy4];omega⟩
theorem Qrx {t:List UInt8} (h:(61:UInt8)∈t):YG (V0 t)=t:=Vq h
theorem QpC {L:List (List UInt8)} (h:∀ t∈L,(61:UInt8)∈t):(L.map V0).map YG=L:=by
 rw [List.map_map];refine (QzA (g:=id) fun t ht=>?_).trans (List.map_id L);exact Qrx (h t ht)
def jnE:List LnP→Int
 | []=>0
 | x::xs=>if lnC x.1 x.2=0 then jnE xs else lnC x.1 x.2
theorem QnY {L:List LnP} (h:∀ x∈L,lnC x.1 x.2=0):jnE L=0:=by
 induction L with
 | nil=>rfl
 | cons x xs ih=>rw [jnE,if_pos (h x (by simp)),ih fun y hy=>h y (Qzd _ hy)]
def jtx (L:List LnP):List UInt8:=Lib.join (L.map YG) [10]
def XL (L:List LnP):List UInt8×Int :=
 if 60 < L.length then ([],1) else if jnE L=0 then (if 3000 < (jtx L).length then ([],1) else (jtx L,0)) else ([],jnE L)
theorem Qry {s:List UInt8} (h:(Qy s).2.2=0):XL (Qy s).1=(s,0)∧(Qy s).2.1=0:=by
 unfold Qy at h ⊢;by_cases h1:3000 < s.length
 ·rw [if_pos h1] at h;cases h
 rw [if_neg h1] at h ⊢;by_cases h2:s=[]
 ·rw [if_pos h2,h2];exact ⟨rfl,rfl⟩
 rw [if_neg h2] at h ⊢;by_cases h3:60 < (spl 10 s).length
 ·rw [if_pos h3] at h;cases h
 rw [if_neg h3] at h ⊢;rcases Qa4 (spl 10 s) [] 0 with ⟨e,q⟩ | ⟨n,e,k1,k2,k3,k4⟩
 ·rw [e]
  have t:jtx ([]++(spl 10 s).map V0)=s:=by
   rw [Qzn];unfold jtx;rw [QpC fun t ht=>(q t ht).1,QeZ]
  refine ⟨?_,rfl⟩;unfold XL
  rw [if_neg (by simpa using h3),if_pos (QnY fun x hx=>by
   rw [Qzn] at hx;obtain ⟨t,ht,rfl⟩:=List.mem_map.1 hx
   exact (q t ht).2),t,if_neg h1]
 ·rw [k1] at h;exact absurd h k2
theorem Qcb {f:UInt8→Bool} {l:List UInt8} {c:UInt8} (h:l.all f=true) (hc:f c=false):c ∉ l:=fun m=>by
 rw [Qzk] at h;rw [h c m] at hc;cases hc
theorem Qcc {x:LnP} (h:lnC x.1 x.2=0):(10:UInt8) ∉ YG x∧V0 (YG x)=x∧(61:UInt8)∈YG x∧(YG x).length≤101∧2≤(YG x).length+1:=by
 obtain ⟨h1,h2,h3,h4,h5⟩:=Qif h;have a:(10:UInt8) ∉ x.1:=Qcb h4 (by decide);have b:(10:UInt8) ∉ x.2:=Qcb h5 (by decide);have c:(61:UInt8) ∉ x.1:=Qcb h4 (by decide);refine ⟨fun m=>?_,?_,by simp [YG],by simp [YG];omega,by simp [YG];omega⟩
 ·rcases List.mem_append.1 m with m | m
  ·exact a m
  ·rcases Qy6.1 m with m | m
   ·cases m
   ·exact b m
 ·show (bef 61 (x.1++61::x.2),aft 61 (x.1++61::x.2))=x;rw [Qic _ c,Qid _ c]
theorem QnZ {L:List LnP} (hn:L.length≤60) (h:∀ x∈L,lnC x.1 x.2=0) (hl:(jtx L).length≤3000):XL L=(jtx L,0)∧Qy (jtx L)=(L,0,0):=by
 refine ⟨by unfold XL;rw [if_neg (by omega),if_pos (QnY h),if_neg (by omega)],?_⟩;unfold Qy;rw [if_neg (by omega)]
 cases L with
 | nil=>rfl
 | cons x xs =>
  have hx:=Qcc (h x (by simp))
  have e:spl 10 (jtx (x::xs))=(x::xs).map YG:=Qe0 (by simp) fun t ht=>by
   obtain ⟨y,hy,rfl⟩:=List.mem_map.1 ht;exact (Qcc (h y hy)).1
  have hne:jtx (x::xs)≠[]:=fun q=>by
   have:(jtx (x::xs)).length=0:=by rw [q];rfl
   unfold jtx at this;rw [List.map_cons,Lib.join_cons,Qzg] at this;simp [YG] at this
  rw [if_neg hne,e,if_neg (by simpa using hn)];rcases Qa4 ((x::xs).map YG) [] 0 with ⟨q,_⟩ | ⟨n,er,k1,k2,k3,k4⟩
  ·rw [q,Qzn,List.map_map];refine Prod.ext ((QzA (g:=id) fun t ht=>?_).trans (List.map_id _)) rfl;exact (Qcc (h t ht)).2.1
  ·exfalso
   have:∀ (M:List LnP) (acc:List LnP) (i:Nat),(∀ y∈M,lnC y.1 y.2=0)→(lnR acc i (M.map YG)).2.2=0:=by
    intro M
    induction M with
    | nil=>intro acc i _;rfl
    | cons y ys ih =>
     intro acc i hy;have k:=Qcc (hy y (by simp));rw [List.map_cons,lnR,if_pos k.2.2.1];have e1:bef 61 (YG y)=y.1:=congrArg Prod.fst k.2.1;have e2:aft 61 (YG y)=y.2:=congrArg Prod.snd k.2.1;rw [e1,e2,if_pos (hy y (by simp))];exact ih _ _ fun z hz=>hy z (Qzd _ hz)
   have z:=this (x::xs) [] 0 h;rw [k1] at z;exact k2 z
end
section
open Go.Lib
def isD (c:UInt8):Bool:=decide (48≤c.toNat) && decide (c.toNat≤57)
def Q5 (n:Nat) (l:List UInt8):Nat:=l.foldl (fun n c=>10 * n+(c.toNat - 48)) n
theorem V1 (n:Nat):Q5 n []=n:=List.foldl_nil
theorem XW (n:Nat) (c:UInt8) (l:List UInt8):Q5 n (c::l)=Q5 (10 * n+(c.toNat - 48)) l:=List.foldl_cons ..
def J2 (s:List UInt8):Prop:=1≤s.length∧s.length≤5∧(1 < s.length→s.getD 0 0≠48)∧s.all isD=true
instance (s:List UInt8):Decidable (J2 s):=by unfold J2;infer_instance
theorem QjN (n:Nat) (a b:List UInt8):Q5 n (a++b)=Q5 (Q5 n a) b:=List.foldl_append
theorem Vr {k:Nat} (h:k < 10):(Qy7 (48+k)).toNat=48+k:=by
 show (48+k) % 2 ^ 8=_;exact Nat.mod_eq_of_lt (by omega)
theorem Qg8 {k:Nat} (h:k < 10):isD (Qy7 (48+k))=true:=by
 unfold isD;rw [Vr h,decide_eq_true (by omega),decide_eq_true (by omega)];rfl
theorem Qew (u:Nat):(decDigits u).all isD=true:=by
 induction u using Qzt with
 | _ u ih =>
  by_cases h:u < 10
  ·rw [decDigits_one h,Qy9,Qg8 h];rfl
  ·rw [decDigits,dif_neg h,Qze,ih (u / 10) (by omega),Qy9,Qg8 (Qy8 u (by decide:0 < 10))];rfl
theorem Qa5 (u:Nat):Q5 0 (decDigits u)=u:=by
 induction u using Qzt with
 | _ u ih =>
  by_cases h:u < 10
  ·rw [decDigits_one h,XW,V1,Vr h];omega
  ·rw [decDigits,dif_neg h,QjN,ih (u / 10) (by omega),XW,V1,Vr (Qy8 u (by decide))];omega
theorem Qrz (u:Nat):decDigits u≠[]:=by
 rw [decDigits];split
 ·simp
 ·simp
theorem QrA:∀ {u:Nat},10≤u→(decDigits u).getD 0 0≠48:=by
 intro u
 induction u using Qzt with
 | _ u ih =>
  intro hu;rw [decDigits,dif_neg (by omega)];by_cases h:u / 10 < 10
  ·rw [decDigits_one h];show Qy7 (48+u / 10)≠48;intro e;have:=congrArg UInt8.toNat e;rw [Vr h] at this;have h48:(48:UInt8).toNat=48:=rfl;omega
  ·have:=ih (u / 10) (by omega) (by omega)
   obtain ⟨a,l,e⟩:∃ a l,decDigits (u / 10)=a::l:=by
    cases q:decDigits (u / 10) with
    | nil=>exact absurd q (Qrz _)
    | cons a l=>exact ⟨a,l,rfl⟩
   rw [e] at this ⊢;exact this
theorem Qa6 {u:Nat} (h:u < 100000):(decDigits u).length≤5:=by
 rw [decDigits_length];by_cases h1:u < 10
 ·rw [nDigits_small h1];decide
 by_cases h2:u < 100
 ·rw [nDigits_unique 1 u (by omega) (by omega)];decide
 by_cases h3:u < 1000
 ·rw [nDigits_unique 2 u (by omega) (by omega)];decide
 by_cases h4:u < 10000
 ·rw [nDigits_unique 3 u (by omega) (by omega)];decide
 ·rw [nDigits_unique 4 u (by omega) (by omega)];decide
theorem QrB {u:Nat} (h:u < 100000):J2 (decDigits u):=by
 refine ⟨?_,Qa6 h,fun h1=>?_,Qew u⟩
 ·cases q:decDigits u with
  | nil=>exact absurd q (Qrz _)
  | cons a l=>simp
 ·rcases Nat.lt_or_ge u 10 with k | k
  ·rw [decDigits_one k] at h1;simp at h1
  ·exact QrA k
theorem Qig {c:UInt8} (h:isD c=true):Qy7 (48+(c.toNat - 48))=c∧c.toNat - 48 < 10:=by
 unfold isD at h;rw [Qzc,decide_eq_true_eq,decide_eq_true_eq] at h;refine ⟨?_,by omega⟩;rw [show 48+(c.toNat - 48)=c.toNat from by omega];exact UInt8.ofNat_toNat
theorem QrC {m d:Nat} (hm:m≠0) (hd:d < 10):decDigits (10 * m+d)=decDigits m++[Qy7 (48+d)]:=by
 rw [decDigits,dif_neg (by omega),show (10 * m+d) / 10=m from by omega,show (10 * m+d) % 10=d from by omega]
theorem QxE (l:List UInt8):∀ (m:Nat),m≠0→l.all isD=true→decDigits (Q5 m l)=decDigits m++l:=by
 induction l with
 | nil=>intro m _ _;rw [List.append_nil,V1]
 | cons c l ih =>
  intro m hm h;rw [Qy9,Qzc] at h;obtain ⟨e,k⟩:=Qig h.1;rw [XW,ih _ (by omega) h.2,QrC hm k,e,Qzi];rfl
theorem Qae {s:List UInt8} (h:J2 s):decDigits (Q5 0 s)=s:=by
 obtain ⟨h1,h2,h3,h4⟩:=h
 cases s with
 | nil=>simp at h1
 | cons c l =>
  rw [Qy9,Qzc] at h4;obtain ⟨e,k⟩:=Qig h4.1;rw [XW]
  cases l with
  | nil =>
   rw [V1,show 10 * 0+(c.toNat - 48)=c.toNat - 48 from by omega,decDigits_one k,e]
  | cons d l =>
   have hc:c.toNat - 48≠0:=fun q=>by
    refine h3 (by simp) ?_;show c=48;rw [q] at e;rw [← e];rfl
   rw [QxE _ _ (by omega) h4.2,show 10 * 0+(c.toNat - 48)=c.toNat - 48 from by omega,decDigits_one k,e];rfl
theorem Qn0 (l:List UInt8):∀ (n:Nat),l.all isD=true→Q5 n l < (n+1) * 10 ^ l.length:=by
 induction l with
 | nil=>intro n _;rw [V1,List.length_nil,Nat.pow_zero];omega
 | cons c l ih =>
  intro n h;rw [Qy9,Qzc] at h;have k:=(Qig h.1).2;have:=ih (10 * n+(c.toNat - 48)) h.2;rw [XW,Qy4,Nat.pow_succ];have h2:(10 * n+(c.toNat - 48)+1) * 10 ^ l.length≤((n+1) * 10) * 10 ^ l.length:=Nat.mul_le_mul_right _ (by omega)
  calc _ < _:=this
   _≤_:=h2
   _=_:=by rw [Nat.mul_assoc,QzC 10]
theorem QrD {s:List UInt8} (h:J2 s):Q5 0 s < 100000:=by
 have a:=Qn0 s 0 h.2.2.2;have b:10 ^ s.length≤10 ^ 5:=Qzb (by decide) h.2.1;omega
def smE (s:List UInt8) (most:Int):Bool:=if J2 s then decide ((Q5 0 s:Int)≤most) else false
def smN (s:List UInt8):Int:=if J2 s then (Q5 0 s:Int) else 0
theorem QbA {s:List UInt8} {most:Int} (h:smE s most=true):J2 s∧smN s=(Q5 0 s:Int)∧(Q5 0 s:Int)≤most:=by
 unfold smE at h;split at h
 ·rename_i k;exact ⟨k,by unfold smN;rw [if_pos k],by simpa using h⟩
 ·cases h
theorem Qih {u:Nat} {most:Int} (h:u < 100000) (h2:(u:Int)≤most):smE (decDigits u) most=true∧smN (decDigits u)=(u:Int):=by
 unfold smE smN;rw [if_pos (QrB h),if_pos (QrB h),Qa5];exact ⟨by simpa using h2,rfl⟩
def X3 (a:Nat):List UInt8:=join [decDigits (a / 16777216 % 256),decDigits (a / 65536 % 256),decDigits (a / 256 % 256),decDigits (a % 256)] [46]
theorem QxF {u:Nat}:(46:UInt8) ∉ decDigits u:=Qcb (Qew u) (by decide)
theorem QrE (a:Nat):spl 46 (X3 a)=[decDigits (a / 16777216 % 256),decDigits (a / 65536 % 256),decDigits (a / 256 % 256),decDigits (a % 256)] :=
 Qe0 (by simp) fun x hx=>by
  simp only [Qy6,List.not_mem_nil,or_false] at hx;rcases hx with rfl | rfl | rfl | rfl <;> exact QxF
def Yb (s:List UInt8):Nat×Int :=
 match spl 46 s with
 | [a,b,c,d]=>if smE a 255=true∧smE b 255=true∧smE c 255=true∧smE d 255=true then (((Q5 0 a * 256+Q5 0 b) * 256+Q5 0 c) * 256+Q5 0 d,0) else (0,3)
 | _=>(0,3)
theorem QrF (a:Nat) (h:a < 4294967296):Yb (X3 a)=(a,0):=by
 unfold Yb;rw [QrE];have k:∀ u,u < 256→smE (decDigits u) 255=true:=fun u hu=>(Qih (by omega) (by omega)).1;show (if _ then _ else _)=_;rw [if_pos ⟨k _ (Qy8 _ (by decide)),k _ (Qy8 _ (by decide)),k _ (Qy8 _ (by decide)),k _ (Qy8 _ (by decide))⟩,Qa5,Qa5,Qa5,Qa5];refine Prod.ext ?_ rfl;show ((a / 16777216 % 256 * 256+a / 65536 % 256) * 256+a / 256 % 256) * 256+a % 256=a;omega
theorem Qg9 {s:List UInt8} (h:(Yb s).2=0):X3 (Yb s).1=s∧(Yb s).1 < 4294967296:=by
 unfold Yb at h ⊢;split at h
 ·rename_i a b c d e
  split at h
  ·rename_i k
   rw [if_pos k];obtain ⟨ka,kb,kc,kd⟩:=k;have ka:=QbA ka;have kb:=QbA kb;have kc:=QbA kc;have kd:=QbA kd;have ha:=ka.2.2;have hb:=kb.2.2;have hc:=kc.2.2;have hd:=kd.2.2;refine ⟨?_,by show ((Q5 0 a * 256+Q5 0 b) * 256+Q5 0 c) * 256+Q5 0 d < _;omega⟩;show X3 (((Q5 0 a * 256+Q5 0 b) * 256+Q5 0 c) * 256+Q5 0 d)=s;unfold X3
   rw [show (((Q5 0 a * 256+Q5 0 b) * 256+Q5 0 c) * 256+Q5 0 d) / 16777216 % 256=Q5 0 a from by omega,
    show (((Q5 0 a * 256+Q5 0 b) * 256+Q5 0 c) * 256+Q5 0 d) / 65536 % 256=Q5 0 b from by omega,
    show (((Q5 0 a * 256+Q5 0 b) * 256+Q5 0 c) * 256+Q5 0 d) / 256 % 256=Q5 0 c from by omega,
    show (((Q5 0 a * 256+Q5 0 b) * 256+Q5 0 c) * 256+Q5 0 d) % 256=Q5 0 d from by omega,
    Qae ka.1,Qae kb.1,Qae kc.1,Qae kd.1,← e,QeZ]
  ·cases h
 ·cases h
theorem Qaf (a:Nat):(X3 a).length≤15:=by
 have k:∀ u,u < 256→(decDigits u).length≤3:=fun u hu=>by
  rw [decDigits_length];by_cases h1:u < 10
  ·rw [nDigits_small h1];decide
  by_cases h2:u < 100
  ·rw [nDigits_unique 1 u (by omega) (by omega)];decide
  ·rw [nDigits_unique 2 u (by omega) (by omega)];decide
 have:=k _ (Qy8 (a / 16777216) (by decide:0 < 256));have:=k _ (Qy8 (a / 65536) (by decide:0 < 256));have:=k _ (Qy8 (a / 256) (by decide:0 < 256));have:=k _ (Qy8 a (by decide:0 < 256));unfold X3;rw [Wo,Wo,Wo,join_one];simp only [Qzg,Qy4,List.length_nil];omega
end
section
def digs:List UInt8:=[48,49,50,51,52,53,54,55,56,57,97,98,99,100,101,102]
def QjO (n:Nat):UInt8:=digs.getD n 0
def Qex (l:List UInt8):List UInt8:=l.flatMap fun b=>[QjO (b.toNat / 16),QjO (b.toNat % 16)]
def W3 (c:UInt8):Int:=Lib.indexByte digs c
def Wx:List UInt8→Option (List UInt8)
 | c::d::r=>if W3 c < 0∨W3 d < 0 then none else (Wx r).map (Qy7 (16 * W3 c+W3 d).toNat :: ·)
 | []=>some []
 | [_]=>none
theorem Qey (c:UInt8) : -1≤W3 c∧W3 c < 16:=by
 have h:∀ (l:List UInt8),-1≤Lib.indexByte l c∧Lib.indexByte l c < l.length∨Lib.indexByte l c = -1:=by
  intro l
  induction l with
  | nil=>exact .inr rfl
  | cons b l ih =>
   unfold Lib.indexByte;by_cases h1:(b == c)=true
   ·rw [if_pos h1];left;simp only [Qy4,Int.natCast_add];omega
   ·rw [if_neg h1];by_cases h2:(Lib.indexByte l c == -1)=true
    ·rw [if_pos h2];exact .inr rfl
    ·rw [if_neg h2];have h3:Lib.indexByte l c ≠ -1:=by simpa using h2
     left;simp only [Qy4,Int.natCast_add];omega
 have:=h digs;have e:digs.length=16:=rfl;unfold W3;omega
theorem Qe4:∀ (l bs:List UInt8) (c d:UInt8),Wx l=some bs→Wx (l++[c,d])=if W3 c < 0∨W3 d < 0 then none else some (bs++[Qy7 (16 * W3 c+W3 d).toNat])
 | [],bs,c,d,h=>by
  simp [Wx] at h;subst h;simp only [Qzn,Wx,Option.map_some]
 | [a],bs,c,d,h=>by simp [Wx] at h
 | a::b::l,bs,c,d,h=>by
  unfold Wx at h;by_cases hc:W3 a < 0∨W3 b < 0
  ·rw [if_pos hc] at h;cases h
  ·rw [if_neg hc] at h
   cases hu:Wx l with
   | none=>rw [hu] at h;cases h
   | some x =>
    rw [hu] at h;simp at h;subst h;show Wx (a::b::(l++[c,d]))=_;unfold Wx;rw [if_neg hc,Qe4 l x c d hu];split <;> simp
theorem Qe5:∀ (l m:List UInt8),Wx l=none→l.length % 2=0→Wx (l++m)=none
 | [],m,h,_=>by simp [Wx] at h
 | [a],m,_,h=>by simp at h
 | a::b::l,m,h,h2=>by
  show Wx (a::b::(l++m))=none;unfold Wx at h ⊢;by_cases hc:W3 a < 0∨W3 b < 0
  ·rw [if_pos hc]
  ·rw [if_neg hc] at h ⊢;have:Wx l=none:=by simpa using h
   rw [Qe5 l m this (by simp at h2;omega)];rfl
theorem QpD:∀ (l bs:List UInt8),Wx l=some bs→l.length=2 * bs.length
 | [],bs,h=>by simp [Wx] at h;subst h;rfl
 | [a],bs,h=>by simp [Wx] at h
 | a::b::l,bs,h=>by
  unfold Wx at h;by_cases hc:W3 a < 0∨W3 b < 0
  ·rw [if_pos hc] at h;cases h
  ·rw [if_neg hc] at h
   cases hu:Wx l with
   | none=>rw [hu] at h;cases h
   | some x=>rw [hu] at h;simp at h;subst h;have:=QpD l x hu;simp;omega
theorem QjP:∀ (l:List UInt8) (c:UInt8),¬ Lib.indexByte l c < 0→l.getD (Lib.indexByte l c).toNat 0=c
 | [],c,h=>absurd (show (-1:Int) < 0 by decide) h
 | b::l,c,h=>by
  unfold Lib.indexByte at h ⊢;by_cases h1:(b == c)=true
  ·rw [if_pos h1];simpa using h1
  ·rw [if_neg h1] at h ⊢;by_cases h2:(Lib.indexByte l c == -1)=true
   ·rw [if_pos h2] at h;exact absurd (by decide) h
   ·rw [if_neg h2] at h ⊢;have h3:Lib.indexByte l c ≠ -1:=by simpa using h2
    by_cases h4:Lib.indexByte l c < 0
    ·exfalso
     have:∀ (l:List UInt8),Lib.indexByte l c < 0→Lib.indexByte l c = -1:=by
      intro l
      induction l with
      | nil=>intro _;rfl
      | cons b l ih =>
       unfold Lib.indexByte;by_cases h1:(b == c)=true
       ·rw [if_pos h1];intro h;omega
       ·rw [if_neg h1];by_cases h2:(Lib.indexByte l c == -1)=true
        ·rw [if_pos h2];intro _;rfl
        ·rw [if_neg h2];intro h;have h3:Lib.indexByte l c ≠ -1:=by simpa using h2
         by_cases h5:Lib.indexByte l c < 0
         ·exact absurd (ih h5) h3
         ·omega
     exact h3 (this l h4)
    ·have:=QjP l c h4;rw [show (Lib.indexByte l c+1).toNat=(Lib.indexByte l c).toNat+1 from by omega];simpa using this
theorem Qha (c:UInt8) (h:¬ W3 c < 0):QjO (W3 c).toNat=c:=QjP digs c h
theorem QbB:∀ (l bs:List UInt8),Wx l=some bs→Qex bs=l
 | [],bs,h=>by simp [Wx] at h;subst h;rfl
 | [a],bs,h=>by simp [Wx] at h
 | a::b::l,bs,h=>by
  unfold Wx at h;by_cases hc:W3 a < 0∨W3 b < 0
  ·rw [if_pos hc] at h;cases h
  ·rw [if_neg hc] at h
   cases hu:Wx l with
   | none=>rw [hu] at h;cases h
   | some x =>
    rw [hu] at h;simp at h;subst h;have ha:=Qey a;have hb:=Qey b;have e:(Qy7 (16 * W3 a+W3 b).toNat).toNat=(16 * W3 a+W3 b).toNat:=by rw [UInt8.toNat_ofNat'];omega
    show QjO ((Qy7 (16 * W3 a+W3 b).toNat).toNat / 16)::QjO ((Qy7 (16 * W3 a+W3 b).toNat).toNat % 16)::Qex x=_;rw [e,QbB l x hu,show (16 * W3 a+W3 b).toNat / 16=(W3 a).toNat from by omega,show (16 * W3 a+W3 b).toNat % 16=(W3 b).toNat from by omega,Qha a (fun h=>hc (.inl h)),Qha b (fun h=>hc (.inr h))]
def Qe6 (l:List UInt8):Int:=if 2000 < (l.length:Int) then 1 else if ¬ (l.length:Int) % 2=0 then 3 else if Wx l=none then 3 else 0
def Qii (l:List UInt8):List UInt8:=if 2000 < (l.length:Int) then [] else if ¬ (l.length:Int) % 2=0 then [] else (Wx l).getD []
def WA (l:List UInt8):Int:=if ¬ (l.length:Int)=64 then 1 else Qe6 l
theorem QrG {l bs:List UInt8} (h1:¬ 2000 < (l.length:Int)) (h2:(l.length:Int) % 2=0) (h:Wx l=some bs):Qe6 l=0∧Qii l=bs:=by
 unfold Qe6 Qii;rw [if_neg h1,if_neg (by omega),if_neg (by rw [h];simp),if_neg h1,if_neg (by omega),h];exact ⟨rfl,rfl⟩
theorem QuR {l:List UInt8} (h1:¬ 2000 < (l.length:Int)) (h2:(l.length:Int) % 2=0) (h:Wx l=none):Qe6 l=3∧Qii l=[]:=by
 unfold Qe6 Qii;rw [if_neg h1,if_neg (by omega),if_pos h,if_neg h1,if_neg (by omega),h];exact ⟨rfl,rfl⟩
theorem QrH {l bs:List UInt8} {j:Nat} (h:Wx (l.take j)=some bs) (h2:j+1 < l.length):Wx (l.take (j+2))=if W3 (l.getD j 0) < 0∨W3 (l.getD (j+1) 0) < 0 then none else some (bs++[Qy7 (16 * W3 (l.getD j 0)+W3 (l.getD (j+1) 0)).toNat]):=by
 have e:l.take (j+2)=l.take j++[l.getD j 0,l.getD (j+1) 0]:=by
  have hj:j < l.length:=by omega
  have d1:l.getD j 0=l[j]:=by rw [Qy3,Qy5 hj];rfl
  have d2:l.getD (j+1) 0=l[j+1]:=by rw [Qy3,Qy5 h2];rfl
  rw [d1,d2,show j+2=j+1+1 from rfl,Qzm h2,Qzm hj,Qzi];rfl
 rw [e];exact Qe4 _ _ _ _ h
theorem Qmk {l:List UInt8} {j:Nat} (h:Wx (l.take j)=none) (hj:j % 2=0) (h2:j≤l.length):Wx l=none:=by
 have e:=Qe5 (l.take j) (l.drop j) h (by rw [List.length_take];omega)
 rwa [List.take_append_drop] at e
end
section
def XM (k:Nat):Nat:=4294967296 - 2 ^ (32 - k)
def V2 (a k:Nat):Nat:=a / 2 ^ (32 - k) * 2 ^ (32 - k)
theorem two32 (k:Nat) (h:k≤32):2 ^ (32 - k) * 2 ^ k=4294967296:=by
 rw [← Nat.pow_add,show 32 - k+k=32 from by omega]
theorem QjQ (k:Nat):2 ^ (32 - k)≤4294967296:=by
 have:2 ^ (32 - k)≤2 ^ 32:=Qzb (by omega) (by omega);simpa using this
theorem QrI (k:Nat):XM k < 4294967296:=by
 unfold XM;have:=Qzf (32 - k);omega
theorem Qml (k:Nat):(4294967295 * 2 ^ (32 - k)) % 4294967296=XM k:=by
 unfold XM;have h:=QjQ k;have h1:=Qzf (32 - k);generalize 2 ^ (32 - k)=p at *;have:4294967295 * p=(p - 1) * 4294967296+(4294967296 - p):=by omega
 rw [this];omega
theorem Qy1 (a k:Nat) (ha:a < 4294967296) (hk:k≤32):a &&& XM k=V2 a k:=by
 apply Qzo;intro i
 have e:XM k=(2 ^ k - 1) * 2 ^ (32 - k):=by
  unfold XM;rw [Nat.sub_mul,Nat.one_mul,QzC,two32 k hk]
 rw [Nat.testBit_and,e,V2,Qzh,Qzh,Nat.testBit_two_pow_sub_one,Qzr];by_cases h:32 - k≤i
 ·rw [Nat.sub_add_cancel h];by_cases h2:i - (32 - k) < k
  ·simp [h,h2]
  ·have:a.testBit i=false:=Qza (Qzp ha (by
    have:2 ^ 32≤2 ^ i:=Qzb (by omega) (by omega)
    simpa using this))
   simp [this]
 ·simp [h]
theorem Qij (a k:Nat):a &&& (4294967295 - XM k)=a % 2 ^ (32 - k):=by
 have h:=QjQ k;have h1:=Qzf (32 - k);have:4294967295 - XM k=2 ^ (32 - k) - 1:=by unfold XM;omega
 rw [this,Nat.and_two_pow_sub_one_eq_mod]
theorem Qik (a k:Nat):V2 a k≤a:=Nat.div_mul_le_self _ _
theorem Qcd (a k:Nat):V2 a k % 2 ^ (32 - k)=0:=Nat.mul_mod_left _ _
theorem Qag {a k:Nat} (h:a % 2 ^ (32 - k)=0):V2 a k=a:=Nat.div_mul_cancel (Qzj h)
def ZV (a:Nat) (n:Int):Int:=if n < 0∨32 < n then 4 else if a % 2 ^ (32 - n.toNat)≠0 then 3 else 0
def Qah (a:Nat) (n:Int):Prop:=0≤n∧n≤32∧a % 2 ^ (32 - n.toNat)=0
instance (a:Nat) (n:Int):Decidable (Qah a n):=by unfold Qah;infer_instance
theorem Xv {a:Nat} {n:Int}:ZV a n=0↔Qah a n:=by
 unfold ZV Qah;by_cases h:n < 0∨32 < n
 ·rw [if_pos h];constructor
  ·intro h;cases h
  ·rintro ⟨h1,h2,_⟩;omega
 ·rw [if_neg h];by_cases h2:a % 2 ^ (32 - n.toNat)≠0
  ·rw [if_pos h2];constructor
   ·intro h;cases h
   ·rintro ⟨_,_,h3⟩;exact absurd h3 h2
  ·rw [if_neg h2];exact ⟨fun _=>⟨by omega,by omega,by simpa using h2⟩,fun _=>rfl⟩
theorem Qn1 (i x y:Nat) (hx:x % 2 ^ i=0) (hy:y < 2 ^ i):x ||| y=x+y:=by
 rw [← Qzu x (2 ^ i),hx,QzB];exact (Nat.two_pow_add_eq_or_of_lt hy _).symm
theorem QpE (H a j:Nat) (hj:j < 32) (hH:H % 2 ^ (j+1)=0) (hl:H < 4294967296) :
  (H+a % 2 ^ (j+1)) &&& (4294967295 - 2 ^ j)=H+a % 2 ^ j:=by
 have h0:H % 2 ^ j=0:=Qzw (Nat.dvd_trans (Qzv 2 (by omega)) (Qzj hH));rw [← Qn1 (j+1) H _ hH (Qy8 _ (Qzf _)),← Qn1 j H _ h0 (Qy8 _ (Qzf _))];apply Qzo;intro k;have e:4294967295 - 2 ^ j=2 ^ 32 - (2 ^ j+1):=by omega
 have hp:2 ^ j < 2 ^ 32:=Nat.pow_lt_pow_right (by omega) hj;rw [Nat.testBit_and,Nat.testBit_or,Nat.testBit_or,e,Nat.testBit_two_pow_sub_succ hp,Qzs,Qzs,Nat.testBit_two_pow]
 have hHj:∀ k,k < j+1→H.testBit k=false:=fun k hk=>by
  rw [← Qzu H (2 ^ (j+1)),hH,QzB,Nat.testBit_two_pow_mul]
  simp;omega
 have hH32:∀ k,¬ k < 32→H.testBit k=false:=fun k hk=>Qza (Qzp hl (by
  have:2 ^ 32≤2 ^ k:=Qzb (by omega) (by omega)
  simpa using this))
 by_cases h1:k < 32
 ·by_cases h2:k=j
  ·subst h2;simp [hHj]
  ·by_cases h3:k < j
   ·simp [h1,h3,hHj,show k < j+1 by omega,Ne.symm h2]
   ·simp [h1,show ¬ k < j+1 by omega,h3,show ¬ j=k by omega]
 ·simp [hH32 k h1,h1,show ¬ k < j by omega]
def XE (a n i:Nat):Nat:=V2 a n+a % 2 ^ (32 - i)
theorem Qce (a n:Nat):XE a n n=a:=by
 unfold XE V2;rw [QzC];exact Qzu a _
theorem Qmm (a n:Nat):XE a n 32=V2 a n:=by unfold XE;simp;omega
theorem QpF (a n i:Nat) (h:a < 4294967296) (hi:n≤i) (h32:i≤32):XE a n i < 4294967296:=by
 have h1:=Qce a n
 have h2:a % 2 ^ (32 - i)≤a % 2 ^ (32 - n):=by
  have:2 ^ (32 - i) ∣ 2 ^ (32 - n):=Qzv 2 (by omega);rw [← Nat.mod_mod_of_dvd a this];exact Nat.mod_le _ _
 unfold XE at *;omega
theorem QjR (a n i:Nat) (h:a < 4294967296) (hi:n≤i) (h32:i < 32):XE a n i &&& (4294967295 - 2 ^ (31 - i))=XE a n (i+1):=by
 unfold XE;have e1:32 - i=31 - i+1:=by omega
 have e2:32 - (i+1)=31 - i:=by omega
 rw [e1,e2];refine QpE _ _ _ (by omega) ?_ (Nat.lt_of_le_of_lt (Qik a n) h);exact Qzw (Nat.dvd_trans (Qzv 2 (by omega)) (Qzj (Qcd a n)))
end
section
inductive Tr where
 | nil:Tr
 | node:List Bool→List UInt8→Tr→Tr→Tr
structure Nd where
 p:List Bool
 o:List UInt8
 s:Nat
 deriving Inhabited
namespace Tr
def flat:Tr→List Nd
 | nil=>[]
 | node p o l r=>⟨p,o,l.flat.length+r.flat.length+1⟩::(l.flat++r.flat)
def und (q:List Bool):Tr→Prop
 | nil=>True
 | node p _ _ _=>q <+: p
def wf:Tr→Prop
 | nil=>True
 | node p o l r=>p.length≤32∧l.und (p++[false])∧r.und (p++[true])∧(o=[]→l≠nil∧r≠nil)∧l.wf∧r.wf
def has:Tr→List Bool→List UInt8→Prop
 | nil,_,_=>False
 | node p o l r,m,y=>(m=p∧y=o∧o≠[])∨l.has m y∨r.has m y
end Tr
open Tr
abbrev J3 (q:List Bool) (k:Nat):Bool:=q.getD k false
end
section
def We:List Bool→Nat
 | []=>0
 | c::p=>(bif c then 2147483648 else 0)+We p / 2
theorem Vs:∀ p,We p < 4294967296
 | []=>by decide
 | c::p=>by
  have:=Vs p;unfold We;cases c <;> simp only [cond_true,cond_false] <;> omega
theorem Qxf {x j:Nat} (h:x < 4294967296) (hj:32≤j):x.testBit j=false:=Qza (Qzp h (Qzb (n:=2) (i:=32) (by decide) hj))
theorem V3:∀ (p:List Bool) (i:Nat),i < 32→(We p).testBit (31 - i)=J3 p i
 | [],i,_=>by unfold We J3;simp
 | c::p,i,h=>by
  have hl:We p / 2 < 2 ^ 31:=by have:=Vs p;omega
  cases i with
  | zero =>
   have e:(bif c then 2147483648 else 0)=(bif c then 2 ^ 31 else 0):=rfl;unfold We
   cases c with
   | false=>simp only [cond_false,Nat.zero_add];rw [Qza hl];rfl
   | true=>simp only [cond_true];rw [show (2147483648:Nat)=2 ^ 31 from rfl,Nat.testBit_two_pow_add_eq,Qza hl];rfl
  | succ i =>
   have e:(We p / 2).testBit (31 - (i+1))=J3 p i:=by rw [Nat.testBit_div_two,show 31 - (i+1)+1=31 - i from by omega];exact V3 p i (by omega)
   have e2:J3 (c::p) (i+1)=J3 p i:=by unfold J3;simp
   rw [e2,← e];have e3:We (c::p)=(bif c then 2147483648 else 0)+We p / 2:=by rw [We]
   rw [e3]
   cases c with
   | false=>simp only [cond_false,Nat.zero_add]
   | true=>simp only [cond_true];rw [show (2147483648:Nat)=2 ^ 31 from rfl,Nat.testBit_two_pow_add_gt (by omega)]
def X4 (a k:Nat):List Bool:=(List.range k).map fun i=>a.testBit (31 - i)
theorem Y5 (a k:Nat):(X4 a k).length=k:=by unfold X4;simp
theorem QpG {a k i:Nat}:J3 (X4 a k) i=(decide (i < k) && a.testBit (31 - i)):=by
 unfold J3 X4;rw [Qy3,List.getElem?_map];by_cases h:i < k
 ·rw [List.getElem?_range h];simp [h]
 ·rw [List.getElem?_eq_none (by simp;omega)];simp [h]
theorem Qn2 {a:Nat} (k:Nat) (h:a < 4294967296):V2 a k < 4294967296:=Nat.lt_of_le_of_lt (Qik a k) h
theorem QjS {a k i:Nat} (hk:k≤32) (h:i < 32):(V2 a k).testBit (31 - i)=(decide (i < k) && a.testBit (31 - i)):=by
 unfold V2;rw [Qzh,Qzr];by_cases h':i < k
 ·rw [show 31 - i - (32 - k)+(32 - k)=31 - i from by omega,decide_eq_true (by omega:32 - k≤31 - i),decide_eq_true h']
 ·rw [decide_eq_false (by omega:¬ 32 - k≤31 - i),decide_eq_false h',Bool.false_and,Bool.false_and]
theorem Qhb {a b:Nat} (ha:a < 4294967296) (hb:b < 4294967296) (h:∀ i,i < 32→a.testBit (31 - i)=b.testBit (31 - i)):a=b:=by
 refine Qzo fun j=>?_;by_cases hj:j < 32
 ·have:=h (31 - j) (by omega)
  rwa [show 31 - (31 - j)=j from by omega] at this
 ·rw [Qxf ha (by omega),Qxf hb (by omega)]
theorem Qdf {a k:Nat} (ha:a < 4294967296) (hk:k≤32):We (X4 a k)=V2 a k:=by
 refine Qhb (Vs _) (Qn2 k ha) fun i hi=>?_;rw [V3 _ _ hi,QpG,QjS hk hi]
theorem Qmn {p:List Bool} {k i:Nat}:J3 (p.take k) i=(decide (i < k) && J3 p i):=by
 unfold J3;rw [Qy3,Qy3,List.getElem?_take];by_cases h:i < k
 ·simp [h]
 ·simp [h]
theorem Qe7 (p:List Bool) {k:Nat} (hk:k≤32):V2 (We p) k=We (p.take k):=by
 refine Qhb (Qn2 k (Vs p)) (Vs _) fun i hi=>?_;rw [QjS hk hi,V3 _ _ hi,V3 _ _ hi,Qmn]
theorem Qe8 {p q:List Bool} (hl:p.length=q.length) (h:p.length≤32) (e:We p=We q):p=q:=by
 refine List.ext_getElem hl fun i h1 h2=>?_;have a:=V3 p i (by omega);have b:=V3 q i (by omega);rw [e,b] at a;unfold J3 at a;rw [Qy3,Qy3,Qy5 h1,Qy5 h2] at a;exact a.symm
abbrev adr (p:List Bool):UInt32:=UInt32.ofNat (We p)
theorem ZM (p:List Bool):(adr p).toNat=We p:=by
 show We p % 2 ^ 32=We p;exact Nat.mod_eq_of_lt (by have:=Vs p;omega)
theorem QuS {p q:List Bool} (hl:p.length=q.length) (h:p.length≤32) (e:adr p=adr q):p=q :=
 Qe8 hl h (by rw [← ZM,← ZM,e])
theorem QrJ (c:UInt32) {k:Nat} (hk:k≤32) (hv:Qah c.toNat (k:Int)):adr (X4 c.toNat k)=c:=by
 apply UInt32.toNat_inj.1;rw [ZM,Qdf c.toNat_lt hk];exact Qag (by have:=hv.2.2;rwa [Qzq] at this)
theorem Qhc {p:List Bool} (h:p.length≤32):Qah (adr p).toNat (p.length:Int):=by
 rw [ZM];refine ⟨by omega,by omega,?_⟩;rw [Qzq];have:=Qe7 p h;rw [Qzl] at this;rw [← this];exact Qcd _ _
theorem Qmo {p:List Bool} (h:p.length≤32):ZV (adr p).toNat (p.length:Int)=0:=Xv.2 (Qhc h)
end
section
open Go.Lib
def wrd:Nat→List UInt8
 | 1=>[112,114,105,118,97,116,101,95,107,101,121]
 | 2=>[108,105,115,116,101,110,95,112,111,114,116]
 | 3=>[114,101,112,108,97,99,101,95,112,101,101,114,115]
 | 4=>[112,117,98,108,105,99,95,107,101,121]
 | 5=>[114,101,109,111,118,101]
 | 6=>[112,114,101,115,104,97,114,101,100,95,107,101,121]
 | 7=>[101,110,100,112,111,105,110,116]
 | 8=>[112,101,114,115,105,115,116,101,110,116,95,107,101,101,112,97,108,105,118,101,95,105,110,116,101,114,118,97,108]
 | 9=>[114,101,112,108,97,99,101,95,97,108,108,111,119,101,100,95,105,112,115]
 | 10=>[97,108,108,111,119,101,100,95,105,112]
 | _=>[]
def WT:List UInt8:=List.replicate 64 48
def tru:List UInt8:=[116,114,117,101]
structure SetS where
 k:Int
 t:List UInt8
 n:Int
 p:List Bool
 deriving Inhabited,DecidableEq
def Qcf (p:List Bool):List UInt8:=X3 (We p)++47::decDigits p.length
def Qe9 (s:List UInt8):List UInt8:=if (58:UInt8)∈s then bef 58 s else s
def VO (s:List UInt8):List UInt8:=if (58:UInt8)∈s then aft 58 s else []
def Y3 (s:List UInt8):Int:=if (58:UInt8)∈s∧(Yb (Qe9 s)).2=0∧smE (VO s) 65535=true∧smN (VO s)≠0 then 0 else 3
def isT (k:Int):Bool:=decide (k=1) || decide (k=4) || decide (k=6) || decide (k=7)
def isN (k:Int):Bool:=decide (k=2) || decide (k=8)
def QP (s:SetS):Int :=
 if s.k < 1∨10 < s.k then 2
 else if (isT s.k=false∧s.t≠[])∨(isN s.k=false∧s.n≠0)∨(s.k≠10∧s.p≠[]) then 3
 else if s.k=1∨s.k=4 then WA s.t
 else if s.k=6 then (if s.t=[] then 0 else if s.t=WT then 3 else WA s.t)
 else if s.k=7 then Y3 s.t
 else if s.k=10 then 0
 else if isN s.k=true∧(s.n < 0∨65535 < s.n) then 4 else 0
def Zy (s:SetS):List UInt8 :=
 if isN s.k then itoa s.n else if s.k=3∨s.k=5∨s.k=9 then tru else if s.k=10 then Qcf s.p else if s.k=6∧s.t=[] then WT else s.t
def ZB (s:SetS):LnP×Int:=if QP s=0 then ((wrd s.k.toNat,Zy s),0) else (([],[]),QP s)
def Q1 (w:List UInt8):Nat→Int
 | 0=>0
 | i+1=>if i+1≤10∧wrd (i+1)=w then ((i+1:Nat):Int) else Q1 w i
def Qbx (s:List UInt8):List Bool×Int :=
 if (47:UInt8)∈s∧(Yb (bef 47 s)).2=0∧smE (aft 47 s) 32=true∧V2 (Yb (bef 47 s)).1 (Q5 0 (aft 47 s))=(Yb (bef 47 s)).1 then (X4 (Yb (bef 47 s)).1 (Q5 0 (aft 47 s)),0) else ([],3)
def rd0 (l:LnP):SetS :=
 if Q1 l.1 10=2∨Q1 l.1 10=8 then ⟨Q1 l.1 10,[],if smE l.2 65535 then smN l.2 else 0,[]⟩
 else if Q1 l.1 10=3∨Q1 l.1 10=5∨Q1 l.1 10=9 then ⟨Q1 l.1 10,[],0,[]⟩
 else if Q1 l.1 10=10 then ⟨10,[],0,(Qbx l.2).1⟩
 else if Q1 l.1 10=6∧l.2=WT then ⟨6,[],0,[]⟩ else ⟨Q1 l.1 10,l.2,0,[]⟩
def Qm:SetS:=⟨0,[],0,[]⟩
def W0 (l:LnP):SetS×Int :=
 if Q1 l.1 10=0 then (Qm,2) else if (ZB (rd0 l)).2=0∧(ZB (rd0 l)).1=l then (rd0 l,0) else (Qm,3)
theorem QpH:∀ i:Fin 11,i.val≠0→Q1 (wrd i.val) 10=(i.val:Int)∧(wrd i.val).all okK=true∧1≤(wrd i.val).length∧(wrd i.val).length≤30:=by decide
theorem Qmp {k:Int} (h1:1≤k) (h2:k≤10):Q1 (wrd k.toNat) 10=k∧(wrd k.toNat).all okK=true∧1≤(wrd k.toNat).length∧(wrd k.toNat).length≤30:=by
 have:=QpH ⟨k.toNat,by omega⟩ (by show k.toNat≠0;omega);have e:((k.toNat:Nat):Int)=k:=by omega
 rw [show ((⟨k.toNat,by omega⟩:Fin 11).val)=k.toNat from rfl,e] at this;exact this
theorem QuT:∀ c:UInt8,isD c=true→okV c=true:=by
 intro c h;unfold isD at h;unfold okV;rw [Qzc,decide_eq_true_eq,decide_eq_true_eq] at h;rw [decide_eq_true (by omega),decide_eq_true (by omega)];rfl
theorem Qez (u:Nat):(decDigits u).all okV=true:=by
 have:=Qew u;rw [Qzk] at this ⊢;exact fun c hc=>QuT c (this c hc)
theorem QjT (a:Nat):(X3 a).all okV=true:=by
 unfold X3;rw [Wo,Wo,Wo,join_one];simp only [Qze,Qez];decide
theorem QjU:∀ n:Fin 16,okV (QjO n.val)=true:=by decide
theorem QdX:∀ l:List UInt8,(Qex l).all okV=true
 | []=>rfl
 | b::l=>by
  have h1:b.toNat / 16 < 16:=by have:=b.toNat_lt;omega
  have h2:b.toNat % 16 < 16:=by omega
  show (QjO (b.toNat / 16)::QjO (b.toNat % 16)::Qex l).all okV=true;rw [Qy9,Qy9,QdX l,QjU ⟨_,h1⟩,QjU ⟨_,h2⟩];rfl
theorem YH {t:List UInt8} (h:WA t=0):t.all okV=true∧t.length=64:=by
 unfold WA at h;by_cases h1:(t.length:Int)=64
 ·rw [if_neg (fun k=>k h1)] at h;unfold Qe6 at h;rw [if_neg (by omega),if_neg (by omega)] at h
  cases hu:Wx t with
  | none=>rw [hu,if_pos rfl] at h;cases h
  | some b=>exact ⟨by rw [← QbB t b hu];exact QdX b,by omega⟩
 ·rw [if_pos h1] at h;cases h
theorem Qcg {t:List UInt8} (h:Y3 t=0):t.all okV=true∧t.length≤21:=by
 unfold Y3 at h;split at h
 ·rename_i k
  obtain ⟨k1,k2,k3,k4⟩:=k;unfold Qe9 at k2;unfold VO at k3;rw [if_pos k1] at k2 k3;have e:=Vq k1;obtain ⟨a1,a2⟩:=Qg9 k2;obtain ⟨b1,b2,b3⟩:=QbA k3;rw [← e,← a1,← Qae b1];refine ⟨by rw [Qze,Qy9,QjT,Qez];rfl,?_⟩;have:=Qaf (Yb (bef 58 t)).1;have:=Qa6 (u:=Q5 0 (aft 58 t)) (QrD b1);rw [Qzg,Qy4];omega
 ·cases h
theorem QjV {p:List Bool} (h:p.length≤32):(Qcf p).all okV=true∧(Qcf p).length≤21:=by
 unfold Qcf;refine ⟨by rw [Qze,Qy9,QjT,Qez];rfl,?_⟩;have:=Qaf (We p);have:=Qa6 (u:=p.length) (by omega);rw [Qzg,Qy4];omega
theorem YI {s:SetS} (h:QP s=0):1≤s.k∧s.k≤10∧(isT s.k=false→s.t=[])∧(isN s.k=false→s.n=0)∧(s.k≠10→s.p=[])∧(s.k=1∨s.k=4→WA s.t=0)∧(s.k=6→s.t=[]∨(s.t≠WT∧WA s.t=0))∧(s.k=7→Y3 s.t=0)∧(isN s.k=true→0≤s.n∧s.n≤65535):=by
 unfold QP at h;by_cases h1:s.k < 1∨10 < s.k
 ·rw [if_pos h1] at h;cases h
 rw [if_neg h1] at h;by_cases h2:(isT s.k=false∧s.t≠[])∨(isN s.k=false∧s.n≠0)∨(s.k≠10∧s.p≠[])
 ·rw [if_pos h2] at h;cases h
 rw [if_neg h2] at h;rw [not_or,not_or,not_and,not_and,not_and] at h2;refine ⟨by omega,by omega,fun k=>Decidable.not_not.1 (h2.1 k),fun k=>Decidable.not_not.1 (h2.2.1 k),fun k=>Decidable.not_not.1 (h2.2.2 k),fun k=>?_,fun k=>?_,fun k=>?_,fun k=>?_⟩
 ·rw [if_pos k] at h;exact h
 ·rw [if_neg (by omega),if_pos k] at h;by_cases h3:s.t=[]
  ·exact .inl h3
  ·rw [if_neg h3] at h;by_cases h4:s.t=WT
   ·rw [if_pos h4] at h;cases h
   ·rw [if_neg h4] at h;exact .inr ⟨h4,h⟩
 ·rw [if_neg (by omega),if_neg (by omega),if_pos k] at h;exact h
 ·have k':s.k=2∨s.k=8:=by unfold isN at k;simpa using k
  rw [if_neg (by omega),if_neg (by omega),if_neg (by omega),if_neg (by omega)] at h;by_cases h5:isN s.k=true∧(s.n < 0∨65535 < s.n)
  ·rw [if_pos h5] at h;cases h
  ·rw [not_and] at h5;have:=h5 k;omega
theorem QjW {n:Int} (h:0≤n):itoa n=decDigits n.toNat:=by unfold itoa;rw [if_neg (by omega)]
theorem YJ {k:Int}:isN k=true↔k=2∨k=8:=by unfold isN;simp
theorem Qil {k:Int}:isT k=true↔k=1∨k=4∨k=6∨k=7:=by unfold isT;simp [or_assoc]
theorem Qfa {k:Int} (h:k≠2) (h2:k≠8):isN k=false:=by
 cases hb:isN k with
 | false=>rfl
 | true=>rcases YJ.1 hb with e | e;exact absurd e h;exact absurd e h2
theorem Qmq {k:Int} (h:k≠1) (h2:k≠4) (h3:k≠6) (h4:k≠7):isT k=false:=by
 cases hb:isT k with
 | false=>rfl
 | true=>rcases Qil.1 hb with e | e | e | e;exact absurd e h;exact absurd e h2;exact absurd e h3;exact absurd e h4
theorem QjX:WT.all okV=true∧WT.length=64:=by decide
theorem Qim {s:SetS} (h:QP s=0) (hp:s.p.length≤32):(Zy s).all okV=true∧(Zy s).length≤64:=by
 obtain ⟨h1,h2,ht,hn,hpp,hk,h6,h7,hnn⟩:=YI h;unfold Zy;by_cases a:isN s.k=true
 ·rw [if_pos a,QjW (hnn a).1];have:=Qa6 (u:=s.n.toNat) (by have:=hnn a;omega);exact ⟨Qez _,by omega⟩
 rw [if_neg a];by_cases b:s.k=3∨s.k=5∨s.k=9
 ·rw [if_pos b];decide
 rw [if_neg b];by_cases c:s.k=10
 ·rw [if_pos c];have:=QjV hp;exact ⟨this.1,by omega⟩
 rw [if_neg c];by_cases d:s.k=6∧s.t=[]
 ·rw [if_pos d];exact ⟨QjX.1,by rw [QjX.2];decide⟩
 rw [if_neg d]
 have hd:s.k=1∨s.k=4∨s.k=6∨s.k=7:=by
  rw [YJ] at a;omega
 rcases hd with e | e | e | e
 ·have:=YH (hk (.inl e));exact ⟨this.1,by omega⟩
 ·have:=YH (hk (.inr e));exact ⟨this.1,by omega⟩
 ·rcases h6 e with k | ⟨_,k⟩
  ·exact absurd ⟨e,k⟩ d
  ·have:=YH k;exact ⟨this.1,by omega⟩
 ·have:=Qcg (h7 e);exact ⟨this.1,by omega⟩
theorem QrK {s:SetS} (h:QP s=0) (hp:s.p.length≤32):lnC (wrd s.k.toNat) (Zy s)=0:=by
 obtain ⟨h1,h2,_⟩:=YI h;obtain ⟨_,w2,w3,w4⟩:=Qmp h1 h2;obtain ⟨v1,v2⟩:=Qim h hp;unfold lnC;rw [if_neg (by omega),w2,v1];rfl
theorem QpI {p:List Bool} (h:p.length≤32):X4 (We p) p.length=p:=by
 refine Qe8 (by rw [Y5]) (by rw [Y5];exact h) ?_;rw [Qdf (Vs p) h,Qe7 p h,Qzl]
theorem QjY {a:Nat}:(47:UInt8) ∉ X3 a:=by
 have h:∀ u,(47:UInt8) ∉ decDigits u:=fun u=>Qcb (Qew u) (by decide);unfold X3;rw [Wo,Wo,Wo,join_one];simp [h]
theorem QrL {p:List Bool} (h:p.length≤32):Qbx (Qcf p)=(p,0):=by
 have b:bef 47 (Qcf p)=X3 (We p):=Qic _ QjY;have a:aft 47 (Qcf p)=decDigits p.length:=Qid _ QjY;have r:=QrF (We p) (Vs p);unfold Qbx;rw [b,a,r,Qa5];have e:V2 (We p) p.length=We p:=by rw [Qe7 p h,Qzl]
 rw [if_pos ⟨by unfold Qcf;simp,rfl,(Qih (by omega) (by omega)).1,e⟩];show (X4 (We p) p.length,(0:Int))=_;rw [QpI h]
theorem QjZ (s:List UInt8):(Qbx s).1.length≤32:=by
 unfold Qbx;split
 ·rename_i h
  have:=(QbA h.2.2.1).2.2;show (X4 _ _).length≤32;rw [Y5];omega
 ·decide
theorem QpJ {s:SetS} (h:QP s=0) (hp:s.p.length≤32):W0 (wrd s.k.toNat,Zy s)=(s,0):=by
 have hi:=YI h;obtain ⟨h1,h2,ht,hn,hpp,hk,h6,h7,hnn⟩:=hi;obtain ⟨w1,_⟩:=Qmp h1 h2
 have key:rd0 (wrd s.k.toNat,Zy s)=s:=by
  unfold rd0;simp only [w1];by_cases a:isN s.k=true
  ·have a':=YJ.1 a;rw [if_pos a'];have e:Zy s=decDigits s.n.toNat:=by unfold Zy;rw [if_pos a,QjW (hnn a).1]
   have hb:=hnn a;rw [e,(Qih (u:=s.n.toNat) (most:=65535) (by omega) (by omega)).1,(Qih (u:=s.n.toNat) (most:=65535) (by omega) (by omega)).2,if_pos rfl];have e1:=ht (Qmq (by omega) (by omega) (by omega) (by omega));have e2:=hpp (by omega);obtain ⟨k,t,n,p⟩:=s;have e3:((n.toNat:Nat):Int)=n:=by have:0≤n:=hb.1;omega
   show SetS.mk k [] ((n.toNat:Nat):Int) []=_;rw [e3];have e1:t=[]:=e1;have e2:p=[]:=e2;rw [e1,e2]
  have a':¬ (s.k=2∨s.k=8):=fun k=>a (YJ.2 k);rw [if_neg a'];have hN:isN s.k=false:=by cases hb:isN s.k with | false=>rfl | true=>exact absurd hb a
  have en:=hn hN;by_cases b:s.k=3∨s.k=5∨s.k=9
  ·rw [if_pos b];have e1:=ht (Qmq (by omega) (by omega) (by omega) (by omega));have e2:=hpp (by omega);obtain ⟨k,t,n,p⟩:=s;have e1:t=[]:=e1;have e2:p=[]:=e2;have e3:n=0:=en;rw [e1,e2,e3]
  rw [if_neg b];by_cases c:s.k=10
  ·rw [if_pos c];have e:Zy s=Qcf s.p:=by unfold Zy;rw [if_neg a,if_neg b,if_pos c]
   have e1:=ht (Qmq (by omega) (by omega) (by omega) (by omega));rw [e,QrL hp];obtain ⟨k,t,n,p⟩:=s;have e1:t=[]:=e1;have e2:k=10:=c;have e3:n=0:=en;rw [e1,e2,e3]
  rw [if_neg c];have e2:=hpp c;by_cases d:s.k=6∧s.t=[]
  ·have e:Zy s=WT:=by unfold Zy;rw [if_neg a,if_neg b,if_neg c,if_pos d]
   rw [if_pos ⟨d.1,e⟩];obtain ⟨k,t,n,p⟩:=s;have e1:t=[]:=d.2;have e2:p=[]:=e2;have e3:n=0:=en;have e4:k=6:=d.1;rw [e1,e2,e3,e4]
  have e:Zy s=s.t:=by unfold Zy;rw [if_neg a,if_neg b,if_neg c,if_neg d]
  have nz:¬ (s.k=6∧Zy s=WT):=fun k=>by
   rw [e] at k;rcases h6 k.1 with q | ⟨q,_⟩
   ·exact d ⟨k.1,q⟩
   ·exact q k.2
  rw [if_neg nz,e];obtain ⟨k,t,n,p⟩:=s;have e2:p=[]:=e2;have e3:n=0:=en;rw [e2,e3]
 have ln:ZB s=((wrd s.k.toNat,Zy s),0):=by unfold ZB;rw [if_pos h]
 unfold W0;rw [key,ln];rw [if_neg (by show ¬ Q1 (wrd s.k.toNat) 10=0;rw [w1];omega),if_pos ⟨rfl,rfl⟩]
theorem Qin {l:LnP} (h:(W0 l).2=0):ZB (W0 l).1=(l,0)∧QP (W0 l).1=0:=by
 unfold W0 at h ⊢;by_cases h1:Q1 l.1 10=0
 ·rw [if_pos h1] at h;cases h
 rw [if_neg h1] at h ⊢;by_cases h2:(ZB (rd0 l)).2=0∧(ZB (rd0 l)).1=l
 ·rw [if_pos h2];refine ⟨Prod.ext h2.2 h2.1,?_⟩;have:=h2.1;unfold ZB at this;split at this
  ·assumption
  ·exact this
 ·rw [if_neg h2] at h;cases h
end
end Go.Proofs.YtcebndkiagbddaaGreatDoor
