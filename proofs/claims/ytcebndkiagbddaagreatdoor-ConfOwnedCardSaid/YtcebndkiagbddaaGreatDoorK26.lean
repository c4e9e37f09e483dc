/- A part of the proof: contracts of functions and what they stand on. Written shorter and merged by a program (pack.py). -/
import Derived.Test.YtcebndkiagbddaaGreatDoorK24
set_option linter.unusedVariables false
set_option linter.unusedSimpArgs false
set_option maxRecDepth 100000
set_option maxHeartbeats 4000000
namespace Go.Proofs.YtcebndkiagbddaaGreatDoor
section
open Go.RowKit Go.Lib
abbrev Zq (s:SetS):EV:=.agg [.i s.k,.s s.t,.i s.n,.u32 (adr s.p),.i (s.p.length:Int)]
def Qce (s:SetS):Prop:=1<=s.k/\s.k<=10/\(isT s.k=false->s.t=[])/\(isN s.k=false->s.n=0)/\(s.k≠10->s.p=[])/\s.t.length<=1100000/\(isN s.k=true->0<=s.n/\s.n<=65535)/\s.p.length<=32
def mst (k:Int):Int:=if k=2\/k=8 then 65535 else -1
theorem QrR {k:Int}:Cf Tryz.prog 110 [] [.i k] [] (.i (mst k)):=by
 refine Qr {} Tryz.func110 Tryz.ntmps110 ?_;refine ⟨fun h1=>?_,fun h1=>?_⟩
 ·skip
  repeat refine o58 ?_
  trivial
 ·skip
  refine ⟨fun h2=>?_,fun h2=>?_⟩
  ·skip
   repeat refine o58 ?_
   trivial
  ·skip
   repeat refine o58 ?_
   trivial
theorem WM {k m:Int} (h:mst k=m):Cf Tryz.prog 110 [] [.i k] [] (.i m):=h ▸ QrR
theorem Qw0:Lib.repeatL ([48]:List UInt8) 64=W5:=by decide
theorem Vy:Cf Tryz.prog 75 [] [.s [48],.i 64] [] (.s W5):=by
 have:=QbE (l:=[48]) (c:=64) (by decide) (by decide);rw [Qw0] at this;exact this
theorem QfE  : Cf Tryz.prog 162 [] [] [] (.az 11 (fun i=>.s (wrd i))):=by
 refine Qr {} Tryz.func162 Tryz.ntmps162 ?_
 repeat refine o0 ?_
 trivial
theorem QrS {p:List Bool} (hp:p.length<=32):WO (adr p).toNat (p.length:Int)=0:=by
 have:=YM hp;exact WL.2 this
theorem Qlg {t:List UInt8} (ht:t.length<=1100000):Cf Tryz.prog 69 [] [.agg [.i 1,.s t,.i 0,.u32 0,.i 0]] [] (.i (ZX t)):=by
 refine QJ {} Tryz.func69 Tryz.ntmps69 ?_
 repeat refine o11 ?_
 refine knF ?_;refine ⟨[0,1,3,7,0,16,48,7,143,511],by kernel_rfl,?_⟩;refine clX (WM (k:=1) (m:=-1) (by decide)) ?_
 repeat refine o0 ?_
 refine knT (knT ?_)
 repeat refine o50 ?_
 refine knF (knT (knT ?_));refine clX (Xk (l:=t)) ?_
 repeat refine o0 ?_
 trivial
theorem Qlh {n:Int} (h0:0<=n) (h1:n<=65535):Cf Tryz.prog 69 [] [.agg [.i 2,.s [],.i n,.u32 0,.i 0]] [] (.i (0)):=by
 refine QJ {} Tryz.func69 Tryz.ntmps69 ?_
 repeat refine o11 ?_
 refine knF ?_;refine ⟨[0,1,3,7,0,16,48,7,143,511],by kernel_rfl,?_⟩;refine clX (WM (k:=2) (m:=65535) (by decide)) ?_
 repeat refine o0 ?_
 refine knF (knF (knF (knF ?_)))
 repeat refine o59 ?_
 refine knF (knF (knF (knF (knF (knF ?_)))));refine ⟨[0,1,3,7,15,31,63,127,63,319,831,2047,4095,8191],by kernel_rfl,?_⟩
 repeat refine o56 ?_
 refine gx2 (WM (k:=2) (m:=65535) (by decide)) (fun hk=>⟨fun _=>hk,?_⟩)
 repeat refine o82 ?_
 refine ⟨fun h12=>?_,fun h12=>?_⟩
 ·skip
  exfalso;have q:=h12;simp at q;omega
 ·skip
  repeat refine o0 ?_
  trivial
theorem Qli  : Cf Tryz.prog 69 [] [.agg [.i 3,.s [],.i 0,.u32 0,.i 0]] [] (.i (0)):=by
 refine QJ {} Tryz.func69 Tryz.ntmps69 ?_
 repeat refine o11 ?_
 refine knF ?_;refine ⟨[0,1,3,7,0,16,48,7,143,511],by kernel_rfl,?_⟩;refine clX (WM (k:=3) (m:=-1) (by decide)) ?_
 repeat refine o0 ?_
 refine knF (knF (knF (knF ?_)))
 repeat refine o60 ?_
 refine knF (knF (knF (knF (knF (knF ?_)))));refine ⟨[0,1,3,7,15,31,63,127,63,319,831,2047,4095,8191],by kernel_rfl,?_⟩
 repeat refine o28 ?_
 refine gx2 (WM (k:=3) (m:=-1) (by decide)) (fun hk=>⟨fun _=>hk,?_⟩)
 repeat refine o61 ?_
 refine knF ?_
 repeat refine o0 ?_
 trivial
theorem Qlj {t:List UInt8} (ht:t.length<=1100000):Cf Tryz.prog 69 [] [.agg [.i 4,.s t,.i 0,.u32 0,.i 0]] [] (.i (ZX t)):=by
 refine QJ {} Tryz.func69 Tryz.ntmps69 ?_
 repeat refine o11 ?_
 refine knF ?_;refine ⟨[0,1,3,7,0,16,48,7,143,511],by kernel_rfl,?_⟩;refine clX (WM (k:=4) (m:=-1) (by decide)) ?_
 repeat refine o0 ?_
 refine knF (knT (knT ?_))
 repeat refine o50 ?_
 refine knF (knF (knT ?_));refine clX (Xk (l:=t)) ?_
 repeat refine o0 ?_
 trivial
theorem Qlk  : Cf Tryz.prog 69 [] [.agg [.i 5,.s [],.i 0,.u32 0,.i 0]] [] (.i (0)):=by
 refine QJ {} Tryz.func69 Tryz.ntmps69 ?_
 repeat refine o11 ?_
 refine knF ?_;refine ⟨[0,1,3,7,0,16,48,7,143,511],by kernel_rfl,?_⟩;refine clX (WM (k:=5) (m:=-1) (by decide)) ?_
 repeat refine o0 ?_
 refine knF (knF (knF (knF ?_)))
 repeat refine o60 ?_
 refine knF (knF (knF (knF (knF (knF ?_)))));refine ⟨[0,1,3,7,15,31,63,127,63,319,831,2047,4095,8191],by kernel_rfl,?_⟩
 repeat refine o28 ?_
 refine gx2 (WM (k:=5) (m:=-1) (by decide)) (fun hk=>⟨fun _=>hk,?_⟩)
 repeat refine o61 ?_
 refine knF ?_
 repeat refine o0 ?_
 trivial
theorem Qll {t:List UInt8} (ht:t.length<=1100000):Cf Tryz.prog 69 [] [.agg [.i 6,.s t,.i 0,.u32 0,.i 0]] [] (.i (if t=[] then 0 else if t=W5 then 3 else ZX t)):=by
 refine QJ {} Tryz.func69 Tryz.ntmps69 ?_
 repeat refine o11 ?_
 refine knF ?_;refine ⟨[0,1,3,7,0,16,48,7,143,511],by kernel_rfl,?_⟩;refine clX (WM (k:=6) (m:=-1) (by decide)) ?_
 repeat refine o0 ?_
 refine knF (knF (knT (knT ?_)))
 repeat refine o50 ?_
 refine knF (knF (knF (knT ?_)));refine ⟨fun h10=>?_,fun h10=>?_⟩
 ·skip
  have ht1:t=[]:=by simpa using h10
  repeat (refine Ob.mk ?_ ?_;focus (rw [if_pos ht1];done))
  trivial
 ·skip
  have ht1:¬ t=[]:=by simpa using h10
  refine ⟨[0,1,0,7],by kernel_rfl,?_⟩;refine clX Vy ?_
  repeat refine o0 ?_
  refine ⟨fun h11=>?_,fun h11=>?_⟩
  ·skip
   have ht2:t=W5:=by simpa using h11
   repeat (refine Ob.mk ?_ ?_;focus (rw [if_neg ht1,if_pos ht2];done))
   trivial
  ·skip
   have ht2:¬ t=W5:=by simpa using h11
   refine clX (Xk (l:=t)) ?_
   repeat (refine Ob.mk ?_ ?_;focus (first | (rw [if_neg ht1,if_neg ht2];done) | (exact Eq.refl _)))
   trivial
theorem Qlm {t:List UInt8} (ht:t.length<=1100000):Cf Tryz.prog 69 [] [.agg [.i 7,.s t,.i 0,.u32 0,.i 0]] [] (.i (Xx t)):=by
 refine QJ {} Tryz.func69 Tryz.ntmps69 ?_
 repeat refine o11 ?_
 refine knF ?_;refine ⟨[0,1,3,7,0,16,48,7,143,511],by kernel_rfl,?_⟩;refine clX (WM (k:=7) (m:=-1) (by decide)) ?_
 repeat refine o0 ?_
 refine knF (knF (knF (knT ?_)))
 repeat refine o50 ?_
 refine knF (knF (knF (knF (knT ?_))));refine clX (Qrj (s:=t) ht) ?_
 repeat refine o0 ?_
 trivial
theorem Qln {n:Int} (h0:0<=n) (h1:n<=65535):Cf Tryz.prog 69 [] [.agg [.i 8,.s [],.i n,.u32 0,.i 0]] [] (.i (0)):=by
 refine QJ {} Tryz.func69 Tryz.ntmps69 ?_
 repeat refine o11 ?_
 refine knF ?_;refine ⟨[0,1,3,7,0,16,48,7,143,511],by kernel_rfl,?_⟩;refine clX (WM (k:=8) (m:=65535) (by decide)) ?_
 repeat refine o0 ?_
 refine knF (knF (knF (knF ?_)))
 repeat refine o59 ?_
 refine knF (knF (knF (knF (knF (knF ?_)))));refine ⟨[0,1,3,7,15,31,63,127,63,319,831,2047,4095,8191],by kernel_rfl,?_⟩
 repeat refine o56 ?_
 refine gx2 (WM (k:=8) (m:=65535) (by decide)) (fun hk=>⟨fun _=>hk,?_⟩)
 repeat refine o82 ?_
 refine ⟨fun h12=>?_,fun h12=>?_⟩
 ·skip
  exfalso;have q:=h12;simp at q;omega
 ·skip
  repeat refine o0 ?_
  trivial
theorem Qlo  : Cf Tryz.prog 69 [] [.agg [.i 9,.s [],.i 0,.u32 0,.i 0]] [] (.i (0)):=by
 refine QJ {} Tryz.func69 Tryz.ntmps69 ?_
 repeat refine o11 ?_
 refine knF ?_;refine ⟨[0,1,3,7,0,16,48,7,143,511],by kernel_rfl,?_⟩;refine clX (WM (k:=9) (m:=-1) (by decide)) ?_
 repeat refine o0 ?_
 refine knF (knF (knF (knF ?_)))
 repeat refine o60 ?_
 refine knF (knF (knF (knF (knF (knF ?_)))));refine ⟨[0,1,3,7,15,31,63,127,63,319,831,2047,4095,8191],by kernel_rfl,?_⟩
 repeat refine o28 ?_
 refine gx2 (WM (k:=9) (m:=-1) (by decide)) (fun hk=>⟨fun _=>hk,?_⟩)
 repeat refine o61 ?_
 refine knF ?_
 repeat refine o0 ?_
 trivial
theorem Qjn {p:List Bool} (hp:p.length<=32):Cf Tryz.prog 69 [] [.agg [.i 10,.s [],.i 0,.u32 (adr p),.i (p.length:Int)]] [] (.i (0)):=by
 have hC:=Qet (a:=adr p) (n:=(p.length:Int));rw [QrS hp] at hC;refine QJ {} Tryz.func69 Tryz.ntmps69 ?_
 repeat refine o11 ?_
 refine knF ?_;refine ⟨[0,1,3,7,0,16,48,7,143,511],by kernel_rfl,?_⟩;refine clX (WM (k:=10) (m:=-1) (by decide)) ?_
 repeat refine o0 ?_
 refine knF (knF (knF (knF ?_)))
 repeat refine o59 ?_
 refine knF (knF (knF (knF (knF (knT ?_)))));refine clX hC ?_
 repeat refine o0 ?_
 trivial
theorem Qlp {t:List UInt8} (ht:t.length<=1100000):Cf Tryz.prog 170 [] [.agg [.i 1,.s t,.i 0,.u32 0,.i 0]] [] (.s (t)):=by
 refine Qr {} Tryz.func170 Tryz.ntmps170 ?_;refine knF (knF (knF (knF (knF (knF (knF ?_))))))
 repeat refine o0 ?_
 trivial
theorem Qlq {n:Int} (h0:0<=n) (h1:n<=65535):Cf Tryz.prog 170 [] [.agg [.i 2,.s [],.i n,.u32 0,.i 0]] [] (.s (itoa n)):=by
 refine Qr {} Tryz.func170 Tryz.ntmps170 ?_;refine knT (knT ?_);refine clX (Qa7 (n:=n) (by omega) (by omega)) ?_
 repeat refine o0 ?_
 trivial
theorem Qlr  : Cf Tryz.prog 170 [] [.agg [.i 3,.s [],.i 0,.u32 0,.i 0]] [] (.s (tru)):=by
 refine Qr {} Tryz.func170 Tryz.ntmps170 ?_;refine knF (knF (knT (knT ?_)))
 repeat refine o0 ?_
 trivial
theorem Qls {t:List UInt8} (ht:t.length<=1100000):Cf Tryz.prog 170 [] [.agg [.i 4,.s t,.i 0,.u32 0,.i 0]] [] (.s (t)):=by
 refine Qr {} Tryz.func170 Tryz.ntmps170 ?_;refine knF (knF (knF (knF (knF (knF (knF ?_))))))
 repeat refine o0 ?_
 trivial
theorem Qlt  : Cf Tryz.prog 170 [] [.agg [.i 5,.s [],.i 0,.u32 0,.i 0]] [] (.s (tru)):=by
 refine Qr {} Tryz.func170 Tryz.ntmps170 ?_;refine knF (knF (knF (knT (knT ?_))))
 repeat refine o0 ?_
 trivial
theorem Qlu {t:List UInt8} (ht:t.length<=1100000):Cf Tryz.prog 170 [] [.agg [.i 6,.s t,.i 0,.u32 0,.i 0]] [] (.s (if t=[] then W5 else t)):=by
 refine Qr {} Tryz.func170 Tryz.ntmps170 ?_;refine knF (knF (knF (knF (knF (knF (knT ?_))))));refine ⟨fun h8=>?_,fun h8=>?_⟩
 ·skip
  have ht1:t=[]:=by simpa using h8
  refine clX Vy ?_
  repeat (refine Ob.mk ?_ ?_;focus (first | (rw [if_pos ht1];done) | (exact Eq.refl _)))
  trivial
 ·skip
  have ht1:¬ t=[]:=by simpa using h8
  repeat (refine Ob.mk ?_ ?_;focus (rw [if_neg ht1];done))
  trivial
theorem Qlv {t:List UInt8} (ht:t.length<=1100000):Cf Tryz.prog 170 [] [.agg [.i 7,.s t,.i 0,.u32 0,.i 0]] [] (.s (t)):=by
 refine Qr {} Tryz.func170 Tryz.ntmps170 ?_;refine knF (knF (knF (knF (knF (knF (knF ?_))))))
 repeat refine o0 ?_
 trivial
theorem Qlw {n:Int} (h0:0<=n) (h1:n<=65535):Cf Tryz.prog 170 [] [.agg [.i 8,.s [],.i n,.u32 0,.i 0]] [] (.s (itoa n)):=by
 refine Qr {} Tryz.func170 Tryz.ntmps170 ?_;refine knF (knT ?_);refine clX (Qa7 (n:=n) (by omega) (by omega)) ?_
 repeat refine o0 ?_
 trivial
theorem Qlx  : Cf Tryz.prog 170 [] [.agg [.i 9,.s [],.i 0,.u32 0,.i 0]] [] (.s (tru)):=by
 refine Qr {} Tryz.func170 Tryz.ntmps170 ?_;refine knF (knF (knF (knF (knT ?_))))
 repeat refine o0 ?_
 trivial
theorem Qjo {p:List Bool} (hp:p.length<=32):Cf Tryz.prog 170 [] [.agg [.i 10,.s [],.i 0,.u32 (adr p),.i (p.length:Int)]] [] (.s (QbG p)):=by
 refine Qr {} Tryz.func170 Tryz.ntmps170 ?_;refine knF (knF (knF (knF (knF (knT ?_)))));refine clX (Qle hp) ?_
 repeat refine o0 ?_
 trivial
theorem val_6 (t:List UInt8):Zi ⟨6,t,0,[]⟩=if t=[] then W5 else t:=by
 have e:Zi ⟨6,t,0,[]⟩=if (6:Int)=6/\t=[] then W5 else t:=rfl
 rw [e];by_cases h:t=[]
 ·rw [if_pos h,if_pos (And.intro rfl h)]
 ·rw [if_neg h,if_neg (fun k:(6:Int)=6/\t=[]=>h k.2)]
theorem Qm4 {k n:Int} (hk:k=2\/k=8) (h0:0<=n) (h1:n<=65535):Zc ⟨k,[],n,[]⟩=0:=by
 rcases hk with rfl | rfl
 ·show (if _ then (4:Int) else 0)=0;exact if_neg (by intro h;have:=h.2;dsimp at this;omega)
 ·show (if _ then (4:Int) else 0)=0;exact if_neg (by intro h;have:=h.2;dsimp at this;omega)
theorem QrT (k:Int) (h1:1<=k) (h2:k<=10):k=1\/k=2\/k=3\/k=4\/k=5\/k=6\/k=7\/k=8\/k=9\/k=10:=by omega
theorem QfF {s:SetS} (h:Qce s):Cf Tryz.prog 69 [] [Zq s] [] (.i (Zc s)):=by
 obtain ⟨h1,h2,h3,h4,h5,h6,h7,h8⟩:=h;obtain ⟨k,t,n,p⟩:=s;rcases QrT k h1 h2 with e | e | e | e | e | e | e | e | e | e
 ·obtain rfl:k=1:=e;obtain rfl:n=0:=h4 rfl;obtain rfl:p=[]:=h5 (show ¬ ((1:Int)=10) by decide);exact Qlg h6
 ·obtain rfl:k=2:=e;obtain rfl:t=[]:=h3 rfl;obtain rfl:p=[]:=h5 (show ¬ ((2:Int)=10) by decide);rw [show Zc ⟨2,[],n,[]⟩=0 from Qm4 (by decide) (h7 rfl).1 (h7 rfl).2];exact Qlh (h7 rfl).1 (h7 rfl).2
 ·obtain rfl:k=3:=e;obtain rfl:t=[]:=h3 rfl;obtain rfl:n=0:=h4 rfl;obtain rfl:p=[]:=h5 (show ¬ ((3:Int)=10) by decide);exact Qli
 ·obtain rfl:k=4:=e;obtain rfl:n=0:=h4 rfl;obtain rfl:p=[]:=h5 (show ¬ ((4:Int)=10) by decide);exact Qlj h6
 ·obtain rfl:k=5:=e;obtain rfl:t=[]:=h3 rfl;obtain rfl:n=0:=h4 rfl;obtain rfl:p=[]:=h5 (show ¬ ((5:Int)=10) by decide);exact Qlk
 ·obtain rfl:k=6:=e;obtain rfl:n=0:=h4 rfl;obtain rfl:p=[]:=h5 (show ¬ ((6:Int)=10) by decide);exact Qll h6
 ·obtain rfl:k=7:=e;obtain rfl:n=0:=h4 rfl;obtain rfl:p=[]:=h5 (show ¬ ((7:Int)=10) by decide);exact Qlm h6
 ·obtain rfl:k=8:=e;obtain rfl:t=[]:=h3 rfl;obtain rfl:p=[]:=h5 (show ¬ ((8:Int)=10) by decide);rw [show Zc ⟨8,[],n,[]⟩=0 from Qm4 (by decide) (h7 rfl).1 (h7 rfl).2];exact Qln (h7 rfl).1 (h7 rfl).2
 ·obtain rfl:k=9:=e;obtain rfl:t=[]:=h3 rfl;obtain rfl:n=0:=h4 rfl;obtain rfl:p=[]:=h5 (show ¬ ((9:Int)=10) by decide);exact Qlo
 ·obtain rfl:k=10:=e;obtain rfl:t=[]:=h3 rfl;obtain rfl:n=0:=h4 rfl;exact Qjn h8
theorem QoH {s:SetS} (h:Qce s):Cf Tryz.prog 170 [] [Zq s] [] (.s (Zi s)):=by
 obtain ⟨h1,h2,h3,h4,h5,h6,h7,h8⟩:=h;obtain ⟨k,t,n,p⟩:=s;rcases QrT k h1 h2 with e | e | e | e | e | e | e | e | e | e
 ·obtain rfl:k=1:=e;obtain rfl:n=0:=h4 rfl;obtain rfl:p=[]:=h5 (show ¬ ((1:Int)=10) by decide);exact Qlp h6
 ·obtain rfl:k=2:=e;obtain rfl:t=[]:=h3 rfl;obtain rfl:p=[]:=h5 (show ¬ ((2:Int)=10) by decide);exact Qlq (h7 rfl).1 (h7 rfl).2
 ·obtain rfl:k=3:=e;obtain rfl:t=[]:=h3 rfl;obtain rfl:n=0:=h4 rfl;obtain rfl:p=[]:=h5 (show ¬ ((3:Int)=10) by decide);exact Qlr
 ·obtain rfl:k=4:=e;obtain rfl:n=0:=h4 rfl;obtain rfl:p=[]:=h5 (show ¬ ((4:Int)=10) by decide);exact Qls h6
 ·obtain rfl:k=5:=e;obtain rfl:t=[]:=h3 rfl;obtain rfl:n=0:=h4 rfl;obtain rfl:p=[]:=h5 (show ¬ ((5:Int)=10) by decide);exact Qlt
 ·obtain rfl:k=6:=e;obtain rfl:n=0:=h4 rfl;obtain rfl:p=[]:=h5 (show ¬ ((6:Int)=10) by decide);rw [show Zi ⟨6,t,0,[]⟩=(if t=[] then W5 else t) from val_6 t];exact Qlu h6
 ·obtain rfl:k=7:=e;obtain rfl:n=0:=h4 rfl;obtain rfl:p=[]:=h5 (show ¬ ((7:Int)=10) by decide);exact Qlv h6
 ·obtain rfl:k=8:=e;obtain rfl:t=[]:=h3 rfl;obtain rfl:p=[]:=h5 (show ¬ ((8:Int)=10) by decide);exact Qlw (h7 rfl).1 (h7 rfl).2
 ·obtain rfl:k=9:=e;obtain rfl:t=[]:=h3 rfl;obtain rfl:n=0:=h4 rfl;obtain rfl:p=[]:=h5 (show ¬ ((9:Int)=10) by decide);exact Qlx
 ·obtain rfl:k=10:=e;obtain rfl:t=[]:=h3 rfl;obtain rfl:n=0:=h4 rfl;exact Qjo h8
abbrev lnpE (x:LnP):EV:=.agg [.s x.1,.s x.2]
theorem ZA {s:SetS} (h:Qce s):Cf Tryz.prog 126 [] [Zq s] [] (.tup [lnpE (Zr s).1,.i (Zr s).2]):=by
 have hk1:1<=s.k:=h.1;have hk2:s.k<=10:=h.2.1;refine QJ {} Tryz.func126 Tryz.ntmps126 ?_;refine clX (QfF h) ?_
 repeat refine o0 ?_
 refine ⟨fun h1=>?_,fun h1=>?_⟩
 ·skip
  have hz:¬ Zc s=0:=by simpa using h1
  have hR:Zr s=(([],[]),Zc s):=by unfold Zr;exact if_neg hz
  repeat refine o18 ?_
  trivial
 ·skip
  have hz:Zc s=0:=by simpa using h1
  have hR:Zr s=((wrd s.k.toNat,Zi s),0):=by unfold Zr;exact if_pos hz
  refine ⟨[0,0,2,7,0,17,63,127,255],by kernel_rfl,?_⟩;refine clX QfE ?_
  repeat (refine Ob.mk ?_ ?_;focus (exact ⟨by omega,by omega⟩))
  refine clX (QoH h) ?_
  repeat (refine Ob.mk ?_ ?_;focus (first | (rw [hR];done) | (exact Eq.refl _)))
  trivial
end
end Go.Proofs.YtcebndkiagbddaaGreatDoor
