/- A part of the proof: contracts of functions and what they stand on. Written shorter and merged by a program (pack.py). -/
import Derived.Test.YtcebndkiagbddaaGreatDoorK20
set_option linter.unusedVariables false
set_option linter.unusedSimpArgs false
set_option maxRecDepth 100000
set_option maxHeartbeats 4000000
namespace Go.Proofs.YtcebndkiagbddaaGreatDoor
section
open Go.RowKit Go.Lib
abbrev Z9 (s:SetS):EV:=.agg [.i s.k,.s s.t,.i s.n,.u32 (adr s.p),.i (s.p.length:Int)]
def Vg (s:SetS):Prop:=1≤s.k∧s.k≤10∧(isT s.k=false→s.t=[])∧(isN s.k=false→s.n=0)∧(s.k≠10→s.p=[])∧s.t.length≤1100000∧(isN s.k=true→0≤s.n∧s.n≤65535)∧s.p.length≤32
def mst (k:Int):Int:=if k=2∨k=8 then 65535 else -1
theorem QtO {k:Int}:Cf Tryz.prog 110 [] [.i k] [] (.i (mst k)):=by
 refine Qs {} Tryz.func110 Tryz.ntmps110 ?_;refine ⟨fun h1=>?_,fun h1=>?_⟩
 ·skip
  repeat refine o73 ?_
  trivial
 ·skip
  refine ⟨fun h2=>?_,fun h2=>?_⟩
  ·skip
   repeat refine o73 ?_
   trivial
  ·skip
   repeat refine o73 ?_
   trivial
theorem Zq {k m:Int} (h:mst k=m):Cf Tryz.prog 110 [] [.i k] [] (.i m):=h ▸ QtO
theorem QyD:Lib.repeatL ([48]:List UInt8) 64=WT:=by decide
theorem J8:Cf Tryz.prog 75 [] [.s [48],.i 64] [] (.s WT):=by
 have:=QdG (l:=[48]) (c:=64) (by decide) (by decide);rw [QyD] at this;exact this
theorem QhQ  : Cf Tryz.prog 162 [] [] [] (.az 11 (fun i=>.s (wrd i))):=by
 refine Qs {} Tryz.func162 Tryz.ntmps162 ?_
 repeat refine o0 ?_
 trivial
theorem QtP {p:List Bool} (hp:p.length≤32):ZV (adr p).toNat (p.length:Int)=0:=by
 have:=Qhc hp;exact Xv.2 this
theorem Qnt {t:List UInt8} (ht:t.length≤1100000):Cf Tryz.prog 69 [] [.agg [.i 1,.s t,.i 0,.u32 0,.i 0]] [] (.i (WA t)):=by
 refine QV {} Tryz.func69 Tryz.ntmps69 ?_
 repeat refine o20 ?_
 refine knF ?_;refine ⟨[0,1,3,7,0,16,48,7,143,511],by kernel_rfl,?_⟩;refine clX (Zq (k:=1) (m:=-1) (by decide)) ?_
 repeat refine o0 ?_
 refine knT (knT ?_)
 repeat refine o64 ?_
 refine knF (knT (knT ?_));refine clX (VG (l:=t)) ?_
 repeat refine o0 ?_
 trivial
theorem Qnu {n:Int} (h0:0≤n) (h1:n≤65535):Cf Tryz.prog 69 [] [.agg [.i 2,.s [],.i n,.u32 0,.i 0]] [] (.i (0)):=by
 refine QV {} Tryz.func69 Tryz.ntmps69 ?_
 repeat refine o20 ?_
 refine knF ?_;refine ⟨[0,1,3,7,0,16,48,7,143,511],by kernel_rfl,?_⟩;refine clX (Zq (k:=2) (m:=65535) (by decide)) ?_
 repeat refine o0 ?_
 refine knF (knF (knF (knF ?_)))
 repeat refine o74 ?_
 refine knF (knF (knF (knF (knF (knF ?_)))));refine ⟨[0,1,3,7,15,31,63,127,63,319,831,2047,4095,8191],by kernel_rfl,?_⟩
 repeat refine o97 ?_
 refine gx2 (Zq (k:=2) (m:=65535) (by decide)) (fun hk=>⟨fun _=>hk,?_⟩)
 repeat refine o98 ?_
 refine ⟨fun h12=>?_,fun h12=>?_⟩
 ·skip
  exfalso;have q:=h12;simp at q;omega
 ·skip
  repeat refine o0 ?_
  trivial
theorem Qnv  : Cf Tryz.prog 69 [] [.agg [.i 3,.s [],.i 0,.u32 0,.i 0]] [] (.i (0)):=by
 refine QV {} Tryz.func69 Tryz.ntmps69 ?_
 repeat refine o20 ?_
 refine knF ?_;refine ⟨[0,1,3,7,0,16,48,7,143,511],by kernel_rfl,?_⟩;refine clX (Zq (k:=3) (m:=-1) (by decide)) ?_
 repeat refine o0 ?_
 refine knF (knF (knF (knF ?_)))
 repeat refine o75 ?_
 refine knF (knF (knF (knF (knF (knF ?_)))));refine ⟨[0,1,3,7,15,31,63,127,63,319,831,2047,4095,8191],by kernel_rfl,?_⟩
 repeat refine o47 ?_
 refine gx2 (Zq (k:=3) (m:=-1) (by decide)) (fun hk=>⟨fun _=>hk,?_⟩)
 repeat refine o76 ?_
 refine knF ?_
 repeat refine o0 ?_
 trivial
theorem Qnw {t:List UInt8} (ht:t.length≤1100000):Cf Tryz.prog 69 [] [.agg [.i 4,.s t,.i 0,.u32 0,.i 0]] [] (.i (WA t)):=by
 refine QV {} Tryz.func69 Tryz.ntmps69 ?_
 repeat refine o20 ?_
 refine knF ?_;refine ⟨[0,1,3,7,0,16,48,7,143,511],by kernel_rfl,?_⟩;refine clX (Zq (k:=4) (m:=-1) (by decide)) ?_
 repeat refine o0 ?_
 refine knF (knT (knT ?_))
 repeat refine o64 ?_
 refine knF (knF (knT ?_));refine clX (VG (l:=t)) ?_
 repeat refine o0 ?_
 trivial
theorem Qnx  : Cf Tryz.prog 69 [] [.agg [.i 5,.s [],.i 0,.u32 0,.i 0]] [] (.i (0)):=by
 refine QV {} Tryz.func69 Tryz.ntmps69 ?_
 repeat refine o20 ?_
 refine knF ?_;refine ⟨[0,1,3,7,0,16,48,7,143,511],by kernel_rfl,?_⟩;refine clX (Zq (k:=5) (m:=-1) (by decide)) ?_
 repeat refine o0 ?_
 refine knF (knF (knF (knF ?_)))
 repeat refine o75 ?_
 refine knF (knF (knF (knF (knF (knF ?_)))));refine ⟨[0,1,3,7,15,31,63,127,63,319,831,2047,4095,8191],by kernel_rfl,?_⟩
 repeat refine o47 ?_
 refine gx2 (Zq (k:=5) (m:=-1) (by decide)) (fun hk=>⟨fun _=>hk,?_⟩)
 repeat refine o76 ?_
 refine knF ?_
 repeat refine o0 ?_
 trivial
theorem Qny {t:List UInt8} (ht:t.length≤1100000):Cf Tryz.prog 69 [] [.agg [.i 6,.s t,.i 0,.u32 0,.i 0]] [] (.i (if t=[] then 0 else if t=WT then 3 else WA t)):=by
 refine QV {} Tryz.func69 Tryz.ntmps69 ?_
 repeat refine o20 ?_
 refine knF ?_;refine ⟨[0,1,3,7,0,16,48,7,143,511],by kernel_rfl,?_⟩;refine clX (Zq (k:=6) (m:=-1) (by decide)) ?_
 repeat refine o0 ?_
 refine knF (knF (knT (knT ?_)))
 repeat refine o64 ?_
 refine knF (knF (knF (knT ?_)));refine ⟨fun h10=>?_,fun h10=>?_⟩
 ·skip
  have ht1:t=[]:=by simpa using h10
  repeat (refine Ob.mk ?_ ?_;focus (rw [if_pos ht1];done))
  trivial
 ·skip
  have ht1:¬ t=[]:=by simpa using h10
  refine ⟨[0,1,0,7],by kernel_rfl,?_⟩;refine clX J8 ?_
  repeat refine o0 ?_
  refine ⟨fun h11=>?_,fun h11=>?_⟩
  ·skip
   have ht2:t=WT:=by simpa using h11
   repeat (refine Ob.mk ?_ ?_;focus (rw [if_neg ht1,if_pos ht2];done))
   trivial
  ·skip
   have ht2:¬ t=WT:=by simpa using h11
   refine clX (VG (l:=t)) ?_
   repeat (refine Ob.mk ?_ ?_;focus (first | (rw [if_neg ht1,if_neg ht2];done) | (exact Eq.refl _)))
   trivial
theorem Qnz {t:List UInt8} (ht:t.length≤1100000):Cf Tryz.prog 69 [] [.agg [.i 7,.s t,.i 0,.u32 0,.i 0]] [] (.i (Y3 t)):=by
 refine QV {} Tryz.func69 Tryz.ntmps69 ?_
 repeat refine o20 ?_
 refine knF ?_;refine ⟨[0,1,3,7,0,16,48,7,143,511],by kernel_rfl,?_⟩;refine clX (Zq (k:=7) (m:=-1) (by decide)) ?_
 repeat refine o0 ?_
 refine knF (knF (knF (knT ?_)))
 repeat refine o64 ?_
 refine knF (knF (knF (knF (knT ?_))));refine clX (Qtl (s:=t) ht) ?_
 repeat refine o0 ?_
 trivial
theorem QnA {n:Int} (h0:0≤n) (h1:n≤65535):Cf Tryz.prog 69 [] [.agg [.i 8,.s [],.i n,.u32 0,.i 0]] [] (.i (0)):=by
 refine QV {} Tryz.func69 Tryz.ntmps69 ?_
 repeat refine o20 ?_
 refine knF ?_;refine ⟨[0,1,3,7,0,16,48,7,143,511],by kernel_rfl,?_⟩;refine clX (Zq (k:=8) (m:=65535) (by decide)) ?_
 repeat refine o0 ?_
 refine knF (knF (knF (knF ?_)))
 repeat refine o74 ?_
 refine knF (knF (knF (knF (knF (knF ?_)))));refine ⟨[0,1,3,7,15,31,63,127,63,319,831,2047,4095,8191],by kernel_rfl,?_⟩
 repeat refine o97 ?_
 refine gx2 (Zq (k:=8) (m:=65535) (by decide)) (fun hk=>⟨fun _=>hk,?_⟩)
 repeat refine o98 ?_
 refine ⟨fun h12=>?_,fun h12=>?_⟩
 ·skip
  exfalso;have q:=h12;simp at q;omega
 ·skip
  repeat refine o0 ?_
  trivial
theorem QnB  : Cf Tryz.prog 69 [] [.agg [.i 9,.s [],.i 0,.u32 0,.i 0]] [] (.i (0)):=by
 refine QV {} Tryz.func69 Tryz.ntmps69 ?_
 repeat refine o20 ?_
 refine knF ?_;refine ⟨[0,1,3,7,0,16,48,7,143,511],by kernel_rfl,?_⟩;refine clX (Zq (k:=9) (m:=-1) (by decide)) ?_
 repeat refine o0 ?_
 refine knF (knF (knF (knF ?_)))
 repeat refine o75 ?_
 refine knF (knF (knF (knF (knF (knF ?_)))));refine ⟨[0,1,3,7,15,31,63,127,63,319,831,2047,4095,8191],by kernel_rfl,?_⟩
 repeat refine o47 ?_
 refine gx2 (Zq (k:=9) (m:=-1) (by decide)) (fun hk=>⟨fun _=>hk,?_⟩)
 repeat refine o76 ?_
 refine knF ?_
 repeat refine o0 ?_
 trivial
theorem QlF {p:List Bool} (hp:p.length≤32):Cf Tryz.prog 69 [] [.agg [.i 10,.s [],.i 0,.u32 (adr p),.i (p.length:Int)]] [] (.i (0)):=by
 have hC:=Qgq (a:=adr p) (n:=(p.length:Int));rw [QtP hp] at hC;refine QV {} Tryz.func69 Tryz.ntmps69 ?_
 repeat refine o20 ?_
 refine knF ?_;refine ⟨[0,1,3,7,0,16,48,7,143,511],by kernel_rfl,?_⟩;refine clX (Zq (k:=10) (m:=-1) (by decide)) ?_
 repeat refine o0 ?_
 refine knF (knF (knF (knF ?_)))
 repeat refine o74 ?_
 refine knF (knF (knF (knF (knF (knT ?_)))));refine clX hC ?_
 repeat refine o0 ?_
 trivial
theorem QnC {t:List UInt8} (ht:t.length≤1100000):Cf Tryz.prog 170 [] [.agg [.i 1,.s t,.i 0,.u32 0,.i 0]] [] (.s (t)):=by
 refine Qs {} Tryz.func170 Tryz.ntmps170 ?_;refine knF (knF (knF (knF (knF (knF (knF ?_))))))
 repeat refine o0 ?_
 trivial
theorem QnD {n:Int} (h0:0≤n) (h1:n≤65535):Cf Tryz.prog 170 [] [.agg [.i 2,.s [],.i n,.u32 0,.i 0]] [] (.s (itoa n)):=by
 refine Qs {} Tryz.func170 Tryz.ntmps170 ?_;refine knT (knT ?_);refine clX (QcZ (n:=n) (by omega) (by omega)) ?_
 repeat refine o0 ?_
 trivial
theorem QnE  : Cf Tryz.prog 170 [] [.agg [.i 3,.s [],.i 0,.u32 0,.i 0]] [] (.s (tru)):=by
 refine Qs {} Tryz.func170 Tryz.ntmps170 ?_;refine knF (knF (knT (knT ?_)))
 repeat refine o0 ?_
 trivial
theorem QnF {t:List UInt8} (ht:t.length≤1100000):Cf Tryz.prog 170 [] [.agg [.i 4,.s t,.i 0,.u32 0,.i 0]] [] (.s (t)):=by
 refine Qs {} Tryz.func170 Tryz.ntmps170 ?_;refine knF (knF (knF (knF (knF (knF (knF ?_))))))
 repeat refine o0 ?_
 trivial
theorem QnG  : Cf Tryz.prog 170 [] [.agg [.i 5,.s [],.i 0,.u32 0,.i 0]] [] (.s (tru)):=by
 refine Qs {} Tryz.func170 Tryz.ntmps170 ?_;refine knF (knF (knF (knT (knT ?_))))
 repeat refine o0 ?_
 trivial
theorem QnH {t:List UInt8} (ht:t.length≤1100000):Cf Tryz.prog 170 [] [.agg [.i 6,.s t,.i 0,.u32 0,.i 0]] [] (.s (if t=[] then WT else t)):=by
 refine Qs {} Tryz.func170 Tryz.ntmps170 ?_;refine knF (knF (knF (knF (knF (knF (knT ?_))))));refine ⟨fun h8=>?_,fun h8=>?_⟩
 ·skip
  have ht1:t=[]:=by simpa using h8
  refine clX J8 ?_
  repeat (refine Ob.mk ?_ ?_;focus (first | (rw [if_pos ht1];done) | (exact Eq.refl _)))
  trivial
 ·skip
  have ht1:¬ t=[]:=by simpa using h8
  repeat (refine Ob.mk ?_ ?_;focus (rw [if_neg ht1];done))
  trivial
theorem QnI {t:List UInt8} (ht:t.length≤1100000):Cf Tryz.prog 170 [] [.agg [.i 7,.s t,.i 0,.u32 0,.i 0]] [] (.s (t)):=by
 refine Qs {} Tryz.func170 Tryz.ntmps170 ?_;refine knF (knF (knF (knF (knF (knF (knF ?_))))))
 repeat refine o0 ?_
 trivial
theorem QnJ {n:Int} (h0:0≤n) (h1:n≤65535):Cf Tryz.prog 170 [] [.agg [.i 8,.s [],.i n,.u32 0,.i 0]] [] (.s (itoa n)):=by
 refine Qs {} Tryz.func170 Tryz.ntmps170 ?_;refine knF (knT ?_);refine clX (QcZ (n:=n) (by omega) (by omega)) ?_
 repeat refine o0 ?_
 trivial
theorem QnK  : Cf Tryz.prog 170 [] [.agg [.i 9,.s [],.i 0,.u32 0,.i 0]] [] (.s (tru)):=by
 refine Qs {} Tryz.func170 Tryz.ntmps170 ?_;refine knF (knF (knF (knF (knT ?_))))
 repeat refine o0 ?_
 trivial
theorem QlG {p:List Bool} (hp:p.length≤32):Cf Tryz.prog 170 [] [.agg [.i 10,.s [],.i 0,.u32 (adr p),.i (p.length:Int)]] [] (.s (Qcf p)):=by
 refine Qs {} Tryz.func170 Tryz.ntmps170 ?_;refine knF (knF (knF (knF (knF (knT ?_)))));refine clX (Qnr hp) ?_
 repeat refine o0 ?_
 trivial
theorem val_6 (t:List UInt8):Zy ⟨6,t,0,[]⟩=if t=[] then WT else t:=by
 have e:Zy ⟨6,t,0,[]⟩=if (6:Int)=6∧t=[] then WT else t:=rfl
 rw [e];by_cases h:t=[]
 ·rw [if_pos h,if_pos (And.intro rfl h)]
 ·rw [if_neg h,if_neg (fun k:(6:Int)=6∧t=[]=>h k.2)]
theorem ZZ {k n:Int} (hk:k=2∨k=8) (h0:0≤n) (h1:n≤65535):QP ⟨k,[],n,[]⟩=0:=by
 rcases hk with rfl | rfl
 ·show (if _ then (4:Int) else 0)=0;exact if_neg (by intro h;have:=h.2;dsimp at this;omega)
 ·show (if _ then (4:Int) else 0)=0;exact if_neg (by intro h;have:=h.2;dsimp at this;omega)
theorem QaM (k:Int) (h1:1≤k) (h2:k≤10):k=1∨k=2∨k=3∨k=4∨k=5∨k=6∨k=7∨k=8∨k=9∨k=10:=by omega
theorem QhR {s:SetS} (h:Vg s):Cf Tryz.prog 69 [] [Z9 s] [] (.i (QP s)):=by
 obtain ⟨h1,h2,h3,h4,h5,h6,h7,h8⟩:=h;obtain ⟨k,t,n,p⟩:=s;rcases QaM k h1 h2 with e | e | e | e | e | e | e | e | e | e
 ·obtain rfl:k=1:=e;obtain rfl:n=0:=h4 rfl;obtain rfl:p=[]:=h5 (show ¬ ((1:Int)=10) by decide);exact Qnt h6
 ·obtain rfl:k=2:=e;obtain rfl:t=[]:=h3 rfl;obtain rfl:p=[]:=h5 (show ¬ ((2:Int)=10) by decide);rw [show QP ⟨2,[],n,[]⟩=0 from ZZ (by decide) (h7 rfl).1 (h7 rfl).2];exact Qnu (h7 rfl).1 (h7 rfl).2
 ·obtain rfl:k=3:=e;obtain rfl:t=[]:=h3 rfl;obtain rfl:n=0:=h4 rfl;obtain rfl:p=[]:=h5 (show ¬ ((3:Int)=10) by decide);exact Qnv
 ·obtain rfl:k=4:=e;obtain rfl:n=0:=h4 rfl;obtain rfl:p=[]:=h5 (show ¬ ((4:Int)=10) by decide);exact Qnw h6
 ·obtain rfl:k=5:=e;obtain rfl:t=[]:=h3 rfl;obtain rfl:n=0:=h4 rfl;obtain rfl:p=[]:=h5 (show ¬ ((5:Int)=10) by decide);exact Qnx
 ·obtain rfl:k=6:=e;obtain rfl:n=0:=h4 rfl;obtain rfl:p=[]:=h5 (show ¬ ((6:Int)=10) by decide);exact Qny h6
 ·obtain rfl:k=7:=e;obtain rfl:n=0:=h4 rfl;obtain rfl:p=[]:=h5 (show ¬ ((7:Int)=10) by decide);exact Qnz h6
 ·obtain rfl:k=8:=e;obtain rfl:t=[]:=h3 rfl;obtain rfl:p=[]:=h5 (show ¬ ((8:Int)=10) by decide);rw [show QP ⟨8,[],n,[]⟩=0 from ZZ (by decide) (h7 rfl).1 (h7 rfl).2];exact QnA (h7 rfl).1 (h7 rfl).2
 ·obtain rfl:k=9:=e;obtain rfl:t=[]:=h3 rfl;obtain rfl:n=0:=h4 rfl;obtain rfl:p=[]:=h5 (show ¬ ((9:Int)=10) by decide);exact QnB
 ·obtain rfl:k=10:=e;obtain rfl:t=[]:=h3 rfl;obtain rfl:n=0:=h4 rfl;exact QlF h8
theorem QqR {s:SetS} (h:Vg s):Cf Tryz.prog 170 [] [Z9 s] [] (.s (Zy s)):=by
 obtain ⟨h1,h2,h3,h4,h5,h6,h7,h8⟩:=h;obtain ⟨k,t,n,p⟩:=s;rcases QaM k h1 h2 with e | e | e | e | e | e | e | e | e | e
 ·obtain rfl:k=1:=e;obtain rfl:n=0:=h4 rfl;obtain rfl:p=[]:=h5 (show ¬ ((1:Int)=10) by decide);exact QnC h6
 ·obtain rfl:k=2:=e;obtain rfl:t=[]:=h3 rfl;obtain rfl:p=[]:=h5 (show ¬ ((2:Int)=10) by decide);exact QnD (h7 rfl).1 (h7 rfl).2
 ·obtain rfl:k=3:=e;obtain rfl:t=[]:=h3 rfl;obtain rfl:n=0:=h4 rfl;obtain rfl:p=[]:=h5 (show ¬ ((3:Int)=10) by decide);exact QnE
 ·obtain rfl:k=4:=e;obtain rfl:n=0:=h4 rfl;obtain rfl:p=[]:=h5 (show ¬ ((4:Int)=10) by decide);exact QnF h6
 ·obtain rfl:k=5:=e;obtain rfl:t=[]:=h3 rfl;obtain rfl:n=0:=h4 rfl;obtain rfl:p=[]:=h5 (show ¬ ((5:Int)=10) by decide);exact QnG
 ·obtain rfl:k=6:=e;obtain rfl:n=0:=h4 rfl;obtain rfl:p=[]:=h5 (show ¬ ((6:Int)=10) by decide);rw [show Zy ⟨6,t,0,[]⟩=(if t=[] then WT else t) from val_6 t];exact QnH h6
 ·obtain rfl:k=7:=e;obtain rfl:n=0:=h4 rfl;obtain rfl:p=[]:=h5 (show ¬ ((7:Int)=10) by decide);exact QnI h6
 ·obtain rfl:k=8:=e;obtain rfl:t=[]:=h3 rfl;obtain rfl:p=[]:=h5 (show ¬ ((8:Int)=10) by decide);exact QnJ (h7 rfl).1 (h7 rfl).2
 ·obtain rfl:k=9:=e;obtain rfl:t=[]:=h3 rfl;obtain rfl:n=0:=h4 rfl;obtain rfl:p=[]:=h5 (show ¬ ((9:Int)=10) by decide);exact QnK
 ·obtain rfl:k=10:=e;obtain rfl:t=[]:=h3 rfl;obtain rfl:n=0:=h4 rfl;exact QlG h8
abbrev lnpE (x:LnP):EV:=.agg [.s x.1,.s x.2]
theorem Z3 {s:SetS} (h:Vg s):Cf Tryz.prog 126 [] [Z9 s] [] (.tup [lnpE (ZB s).1,.i (ZB s).2]):=by
 have hk1:1≤s.k:=h.1;have hk2:s.k≤10:=h.2.1;refine QV {} Tryz.func126 Tryz.ntmps126 ?_;refine clX (QhR h) ?_
 repeat refine o0 ?_
 refine ⟨fun h1=>?_,fun h1=>?_⟩
 ·skip
  have hz:¬ QP s=0:=by simpa using h1
  have hR:ZB s=(([],[]),QP s):=by unfold ZB;exact if_neg hz
  repeat refine o25 ?_
  trivial
 ·skip
  have hz:QP s=0:=by simpa using h1
  have hR:ZB s=((wrd s.k.toNat,Zy s),0):=by unfold ZB;exact if_pos hz
  refine ⟨[0,0,2,7,0,17,63,127,255],by kernel_rfl,?_⟩;refine clX QhQ ?_
  repeat (refine Ob.mk ?_ ?_;focus (exact ⟨by omega,by omega⟩))
  refine clX (QqR h) ?_
  repeat (refine Ob.mk ?_ ?_;focus (first | (rw [hR];done) | (exact Eq.refl _)))
  trivial
end
end Go.Proofs.YtcebndkiagbddaaGreatDoor
