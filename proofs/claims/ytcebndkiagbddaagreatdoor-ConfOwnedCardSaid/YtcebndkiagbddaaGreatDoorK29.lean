/- A part of the proof: contracts of functions and what they stand on. Written shorter and merged by a program (pack.py). -/
import Derived.Test.YtcebndkiagbddaaGreatDoorK26
set_option linter.unusedVariables false
set_option linter.unusedSimpArgs false
set_option maxRecDepth 100000
set_option maxHeartbeats 4000000
open Bool renaming noConfusion -> Qxo
open List renaming length_cons -> Qxw
namespace Go.Proofs.YtcebndkiagbddaaGreatDoor
section
open Go.RowKit Go.Lib
theorem QrU {w:List UInt8} {i:Nat} (h0:0 < i) (h1:i<=10) (h:wrd i=w):QI w i=(i:Int):=by
 obtain ⟨j,rfl⟩:∃ j,i=j+1:=⟨i - 1,by omega⟩;unfold QI;rw [if_pos ⟨h1,h⟩]
theorem QoI {w:List UInt8} {i:Nat} (h:¬ (0 < i/\wrd i=w)):QI w i=QI w (i - 1):=by
 match i,h with
 | 0,_=>rfl
 | j+1,h =>
  show (if _ then _ else _)=_;rw [if_neg fun k=>h ⟨by omega,k.2⟩];rfl
theorem J6 (w:List UInt8):∀ i,0<=QI w i/\QI w i<=10
 | 0=>by unfold QI;omega
 | i+1=>by
  unfold QI;split
  ·omega
  ·exact J6 w i
theorem int11 {k:Int} (h0:0<=k) (h1:k<=10):k=0\/k=1\/k=2\/k=3\/k=4\/k=5\/k=6\/k=7\/k=8\/k=9\/k=10:=by omega
def rdk (k:Int) (v:List UInt8):SetS :=
 if k=2\/k=8 then ⟨k,[],nbN v 65535,[]⟩
 else if k=3\/k=5\/k=9 then ⟨k,[],0,[]⟩
 else if k=10 then ⟨10,[],0,(JE v).1⟩
 else if k=6/\v=W5 then ⟨6,[],0,[]⟩ else ⟨k,v,0,[]⟩
theorem Zo {l:LnP} {k:Int} (h:QI l.1 10=k) (hk:k≠0):Wv l=if (Zr (rdk k l.2)).2=0/\(Zr (rdk k l.2)).1=l then (rdk k l.2,0) else (QS,3):=by
 have e:rd0 l=rdk k l.2:=by unfold rd0 rdk;rw [h];rfl
 unfold Wv;rw [h,if_neg hk,e]
theorem Qm5 {l:LnP} (h:QI l.1 10=0):Wv l=(QS,2):=by
 unfold Wv;rw [h];rfl
theorem Qw1 (v:List UInt8):0<=nbN v 65535/\nbN v 65535<=65535:=by
 unfold nbN;split
 ·rename_i h
  obtain ⟨a,b,c⟩:=JK h;omega
 ·omega
theorem Z2 {k:Int} {v:List UInt8} (hv:v.length<=1100000) (h1:1<=k) (h2:k<=10):Qce (rdk k v):=by
 unfold rdk;by_cases a:k=2\/k=8
 ·rw [if_pos a];exact ⟨h1,h2,fun _=>rfl,fun h=>Qxo ((Yn.2 a).symm.trans h),fun _=>rfl,by simp,fun _=>Qw1 v,by simp⟩
 rw [if_neg a];have hN:isN k=false:=Qeb (by omega) (by omega);by_cases b:k=3\/k=5\/k=9
 ·rw [if_pos b];exact ⟨h1,h2,fun _=>rfl,fun _=>rfl,fun _=>rfl,by simp,fun h=>Qxo (hN.symm.trans h),by simp⟩
 rw [if_neg b];by_cases c:k=10
 ·rw [if_pos c];exact ⟨by show (1:Int)<=10;omega,by show (10:Int)<=10;omega,fun _=>rfl,fun _=>rfl,fun h=>absurd rfl h,by simp,fun h=>Qxo ((show isN 10=false by decide).symm.trans h),QiU v⟩
 rw [if_neg c];by_cases d:k=6/\v=W5
 ·rw [if_pos d];exact ⟨by show (1:Int)<=6;omega,by show (6:Int)<=10;omega,fun _=>rfl,fun _=>rfl,fun _=>rfl,by simp,fun h=>Qxo ((show isN 6=false by decide).symm.trans h),by simp⟩
 rw [if_neg d];exact ⟨h1,h2,fun h=>Qxo ((QgR.2 (show k=1\/k=4\/k=6\/k=7 by omega)).symm.trans h),fun _=>rfl,fun _=>rfl,hv,fun h=>Qxo (hN.symm.trans h),by simp⟩
theorem rd6_T {v:List UInt8} (h:v=W5):rdk 6 v=⟨6,[],0,[]⟩:=by
 show (if (6:Int)=6/\v=W5 then (⟨6,[],0,[]⟩:SetS) else ⟨6,v,0,[]⟩)=_;exact if_pos (And.intro rfl h)
theorem Qm6 {v:List UInt8} (h:¬ v=W5):rdk 6 v=⟨6,v,0,[]⟩:=by
 show (if (6:Int)=6/\v=W5 then (⟨6,[],0,[]⟩:SetS) else ⟨6,v,0,[]⟩)=_;exact if_neg (fun k:(6:Int)=6/\v=W5=>h k.2)
theorem QrV {l:LnP} (hl:l.2.length<=1100000):Cf Tryz.prog 118 [] [lnpE l] [] (.tup [Zq (Wv l).1,.i (Wv l).2]):=by
 refine QJ {} Tryz.func118 Tryz.ntmps118 ?_;refine clX QfE ?_;refine ⟨Nat×Int,fun x=>⟨[(1,.own 1001 0),(2,.own 1002 0),(3,.i 0),(4,.own 1004 0),(9,.az 11 (fun i=>.s (wrd i))),(10,.i (x.1:Int))],[(1001,.box [.s l.1,.s l.2] 196),(1002,.box [.i 0,.s [],.i 0,.u32 0,.i 0] 48),(1004,.box [.i x.2,.s [],.i 0,.u32 0,.i 0] 48)]⟩,fun x=>x.1<=11/\x.2=QI l.1 (x.1 - 1),fun x=>11 - x.1,(0,0),⟨Nat.zero_le _,rfl⟩,?_,fun x hx1=>?_⟩
 ·skip
  repeat (refine Ob.mk ?_ ?_;focus (first | (exact Eq.refl _) | (exact fun _ _=>Eq.refl _)))
  trivial
 refine ⟨fun h1=>?_,fun h1=>?_⟩
 ·skip
  have c1:=h1
  (simp only [bsX] at c1)
  have hi:x.1 < 11:=by omega
  repeat (refine Ob.mk ?_ ?_;focus (first | omega | (exact fun hg=>ZQ hg) | (exact fun hg=>hg)))
  refine ⟨fun h2=>?_,fun h2=>?_⟩
  ·skip
   have c2:=h2
   (simp only [bsX] at c2)
   have q:0 < x.1/\wrd x.1=l.1:=by simpa using h2
   have hK:QI l.1 x.1=(x.1:Int):=QrU q.1 (by omega) q.2
   repeat refine o4 ?_
   have ho:x.1+1<=11/\QI l.1 x.1=QI l.1 (x.1+1 - 1):=⟨by omega,rfl⟩;refine Qt (x.1+1,QI l.1 x.1) ?_
   repeat refine o83 ?_
   trivial
  ·skip
   have c2:=h2
   (simp only [bsX] at c2)
   have q:¬ (0 < x.1/\wrd x.1=l.1):=by simpa using h2
   have hK:QI l.1 x.1=x.2:=by rw [QoI q];exact hx1.2.symm
   repeat refine o4 ?_
   have ho:x.1+1<=11/\QI l.1 x.1=QI l.1 (x.1+1 - 1):=⟨by omega,rfl⟩;refine Qt (x.1+1,QI l.1 x.1) ?_
   repeat refine o83 ?_
   trivial
 ·skip
  have c1:=h1
  (simp only [bsX] at c1)
  obtain ⟨i,kd⟩:=x;have hi:i=11:=by (have:i<=11:=hx1.1);(have q:¬ ((i:Int) < 11):=by simpa using h1);omega
  subst hi;have hk2:QI l.1 10=kd:=hx1.2.symm;have hr:=J6 l.1 10;rw [hk2] at hr;rcases int11 hr.1 hr.2 with rfl | rfl | rfl | rfl | rfl | rfl | rfl | rfl | rfl | rfl | rfl
  ·skip
   refine knT ?_;have hR:=Qm5 hk2
   repeat refine o8 ?_
   trivial
  ·skip
   refine knF ?_;have hL:=ZA (s:=rdk 1 l.2) (Z2 hl (by decide) (by decide));have hS:=Zo hk2 (by decide);refine knF (knF (knF (knF (knF (knF ?_)))));refine ⟨[0,1,3,7,15,31,15,127,255],by kernel_rfl,?_⟩
   repeat refine o28 ?_
   refine gx2 (Vy) (fun hk=>⟨fun _=>hk,?_⟩)
   repeat refine o39 ?_
   refine ⟨fun h10=>?_,fun h10=>?_⟩
   ·skip
    (simp only [Int.reduceToNat,UInt8.reduceOfNat] at h10)
    have c10:=h10
    (simp only [bsX] at c10)
    exact absurd (show false=true from h10) (by decide)
   ·skip
    (simp only [Int.reduceToNat,UInt8.reduceOfNat] at h10)
    have c10:=h10
    (simp only [bsX] at c10)
    try (have hz:¬ l.2=W5:=by simpa using h10)
    try rw [Qm6 hz] at hL hS
    refine clX hL ?_
    repeat refine o15 ?_
    refine ⟨fun h11=>?_,fun h11=>?_⟩
    ·skip
     have c11:=h11
     (simp only [bsX] at c11)
     have hR:=hS.trans (if_neg (by intro ⟨q1,q2⟩;have q:=h11;rw [q1] at q;rw [q2] at q;simp at q))
     repeat refine o8 ?_
     trivial
    ·skip
     have c11:=h11
     (simp only [bsX] at c11)
     have hR:=hS.trans (if_pos (by have q:=h11;simp at q;exact ⟨q.1,Prod.ext q.2.1 q.2.2⟩))
     repeat refine o8 ?_
     trivial
  ·skip
   refine knF ?_;have hL:=ZA (s:=rdk 2 l.2) (Z2 hl (by decide) (by decide));have hS:=Zo hk2 (by decide);refine knT (knT ?_);refine ⟨[0,1,0,4,12,31,63,127,127,255,767],by kernel_rfl,?_⟩;refine clX (WM (k:=2) (m:=65535) (by decide)) ?_
   repeat refine o0 ?_
   refine clX (Js (s:=l.2) (most:=65535) hl) ?_
   repeat refine o0 ?_
   refine clX hL ?_
   repeat refine o15 ?_
   refine ⟨fun h6=>?_,fun h6=>?_⟩
   ·skip
    have c6:=h6
    (simp only [bsX] at c6)
    have hR:=hS.trans (if_neg (by intro ⟨q1,q2⟩;have q:=h6;rw [q1] at q;rw [q2] at q;simp at q))
    repeat refine o8 ?_
    trivial
   ·skip
    have c6:=h6
    (simp only [bsX] at c6)
    have hR:=hS.trans (if_pos (by have q:=h6;simp at q;exact ⟨q.1,Prod.ext q.2.1 q.2.2⟩))
    repeat refine o8 ?_
    trivial
  ·skip
   refine knF ?_;have hL:=ZA (s:=rdk 3 l.2) (Z2 hl (by decide) (by decide));have hS:=Zo hk2 (by decide);refine knF (knF (knT (knT ?_)));refine clX hL ?_
   repeat refine o40 ?_
   refine ⟨fun h8=>?_,fun h8=>?_⟩
   ·skip
    have c8:=h8
    (simp only [bsX] at c8)
    have hR:=hS.trans (if_neg (by intro ⟨q1,q2⟩;have q:=h8;rw [q1] at q;rw [q2] at q;simp at q))
    repeat refine o8 ?_
    trivial
   ·skip
    have c8:=h8
    (simp only [bsX] at c8)
    have hR:=hS.trans (if_pos (by have q:=h8;simp at q;exact ⟨q.1,Prod.ext q.2.1 q.2.2⟩))
    repeat refine o8 ?_
    trivial
  ·skip
   refine knF ?_;have hL:=ZA (s:=rdk 4 l.2) (Z2 hl (by decide) (by decide));have hS:=Zo hk2 (by decide);refine knF (knF (knF (knF (knF (knF ?_)))));refine ⟨[0,1,3,7,15,31,15,127,255],by kernel_rfl,?_⟩
   repeat refine o28 ?_
   refine gx2 (Vy) (fun hk=>⟨fun _=>hk,?_⟩)
   repeat refine o39 ?_
   refine ⟨fun h10=>?_,fun h10=>?_⟩
   ·skip
    (simp only [Int.reduceToNat,UInt8.reduceOfNat] at h10)
    have c10:=h10
    (simp only [bsX] at c10)
    exact absurd (show false=true from h10) (by decide)
   ·skip
    (simp only [Int.reduceToNat,UInt8.reduceOfNat] at h10)
    have c10:=h10
    (simp only [bsX] at c10)
    try (have hz:¬ l.2=W5:=by simpa using h10)
    try rw [Qm6 hz] at hL hS
    refine clX hL ?_
    repeat refine o15 ?_
    refine ⟨fun h11=>?_,fun h11=>?_⟩
    ·skip
     have c11:=h11
     (simp only [bsX] at c11)
     have hR:=hS.trans (if_neg (by intro ⟨q1,q2⟩;have q:=h11;rw [q1] at q;rw [q2] at q;simp at q))
     repeat refine o8 ?_
     trivial
    ·skip
     have c11:=h11
     (simp only [bsX] at c11)
     have hR:=hS.trans (if_pos (by have q:=h11;simp at q;exact ⟨q.1,Prod.ext q.2.1 q.2.2⟩))
     repeat refine o8 ?_
     trivial
  ·skip
   refine knF ?_;have hL:=ZA (s:=rdk 5 l.2) (Z2 hl (by decide) (by decide));have hS:=Zo hk2 (by decide);refine knF (knF (knF (knT (knT ?_))));refine clX hL ?_
   repeat refine o40 ?_
   refine ⟨fun h9=>?_,fun h9=>?_⟩
   ·skip
    have c9:=h9
    (simp only [bsX] at c9)
    have hR:=hS.trans (if_neg (by intro ⟨q1,q2⟩;have q:=h9;rw [q1] at q;rw [q2] at q;simp at q))
    repeat refine o8 ?_
    trivial
   ·skip
    have c9:=h9
    (simp only [bsX] at c9)
    have hR:=hS.trans (if_pos (by have q:=h9;simp at q;exact ⟨q.1,Prod.ext q.2.1 q.2.2⟩))
    repeat refine o8 ?_
    trivial
  ·skip
   refine knF ?_;have hL:=ZA (s:=rdk 6 l.2) (Z2 hl (by decide) (by decide));have hS:=Zo hk2 (by decide);refine knF (knF (knF (knF (knF (knF ?_)))));refine ⟨[0,1,3,7,15,31,15,127,255],by kernel_rfl,?_⟩
   repeat refine o11 ?_
   refine gx2 (Vy) (fun hk=>⟨fun _=>hk,?_⟩)
   repeat refine o11 ?_
   refine ⟨fun h10=>?_,fun h10=>?_⟩
   ·skip
    (simp only [Int.reduceToNat,UInt8.reduceOfNat] at h10)
    have c10:=h10
    (simp only [bsX] at c10)
    have hz:l.2=W5:=by simpa using h10
    rw [rd6_T hz] at hL hS;refine clX hL ?_
    repeat refine o40 ?_
    refine ⟨fun h11=>?_,fun h11=>?_⟩
    ·skip
     have c11:=h11
     (simp only [bsX] at c11)
     have hR:=hS.trans (if_neg (by intro ⟨q1,q2⟩;have q:=h11;rw [q1] at q;rw [q2] at q;simp at q))
     repeat refine o8 ?_
     trivial
    ·skip
     have c11:=h11
     (simp only [bsX] at c11)
     have hR:=hS.trans (if_pos (by have q:=h11;simp at q;exact ⟨q.1,Prod.ext q.2.1 q.2.2⟩))
     repeat refine o8 ?_
     trivial
   ·skip
    (simp only [Int.reduceToNat,UInt8.reduceOfNat] at h10)
    have c10:=h10
    (simp only [bsX] at c10)
    try (have hz:¬ l.2=W5:=by simpa using h10)
    try rw [Qm6 hz] at hL hS
    refine clX hL ?_
    repeat refine o15 ?_
    refine ⟨fun h12=>?_,fun h12=>?_⟩
    ·skip
     have c12:=h12
     (simp only [bsX] at c12)
     have hR:=hS.trans (if_neg (by intro ⟨q1,q2⟩;have q:=h12;rw [q1] at q;rw [q2] at q;simp at q))
     repeat refine o8 ?_
     trivial
    ·skip
     have c12:=h12
     (simp only [bsX] at c12)
     have hR:=hS.trans (if_pos (by have q:=h12;simp at q;exact ⟨q.1,Prod.ext q.2.1 q.2.2⟩))
     repeat refine o8 ?_
     trivial
  ·skip
   refine knF ?_;have hL:=ZA (s:=rdk 7 l.2) (Z2 hl (by decide) (by decide));have hS:=Zo hk2 (by decide);refine knF (knF (knF (knF (knF (knF ?_)))));refine ⟨[0,1,3,7,15,31,15,127,255],by kernel_rfl,?_⟩
   repeat refine o28 ?_
   refine gx2 (Vy) (fun hk=>⟨fun _=>hk,?_⟩)
   repeat refine o39 ?_
   refine ⟨fun h10=>?_,fun h10=>?_⟩
   ·skip
    (simp only [Int.reduceToNat,UInt8.reduceOfNat] at h10)
    have c10:=h10
    (simp only [bsX] at c10)
    exact absurd (show false=true from h10) (by decide)
   ·skip
    (simp only [Int.reduceToNat,UInt8.reduceOfNat] at h10)
    have c10:=h10
    (simp only [bsX] at c10)
    try (have hz:¬ l.2=W5:=by simpa using h10)
    try rw [Qm6 hz] at hL hS
    refine clX hL ?_
    repeat refine o15 ?_
    refine ⟨fun h11=>?_,fun h11=>?_⟩
    ·skip
     have c11:=h11
     (simp only [bsX] at c11)
     have hR:=hS.trans (if_neg (by intro ⟨q1,q2⟩;have q:=h11;rw [q1] at q;rw [q2] at q;simp at q))
     repeat refine o8 ?_
     trivial
    ·skip
     have c11:=h11
     (simp only [bsX] at c11)
     have hR:=hS.trans (if_pos (by have q:=h11;simp at q;exact ⟨q.1,Prod.ext q.2.1 q.2.2⟩))
     repeat refine o8 ?_
     trivial
  ·skip
   refine knF ?_;have hL:=ZA (s:=rdk 8 l.2) (Z2 hl (by decide) (by decide));have hS:=Zo hk2 (by decide);refine knF (knT ?_);refine ⟨[0,1,0,4,12,31,63,127,127,255,767],by kernel_rfl,?_⟩;refine clX (WM (k:=8) (m:=65535) (by decide)) ?_
   repeat refine o0 ?_
   refine clX (Js (s:=l.2) (most:=65535) hl) ?_
   repeat refine o0 ?_
   refine clX hL ?_
   repeat refine o15 ?_
   refine ⟨fun h6=>?_,fun h6=>?_⟩
   ·skip
    have c6:=h6
    (simp only [bsX] at c6)
    have hR:=hS.trans (if_neg (by intro ⟨q1,q2⟩;have q:=h6;rw [q1] at q;rw [q2] at q;simp at q))
    repeat refine o8 ?_
    trivial
   ·skip
    have c6:=h6
    (simp only [bsX] at c6)
    have hR:=hS.trans (if_pos (by have q:=h6;simp at q;exact ⟨q.1,Prod.ext q.2.1 q.2.2⟩))
    repeat refine o8 ?_
    trivial
  ·skip
   refine knF ?_;have hL:=ZA (s:=rdk 9 l.2) (Z2 hl (by decide) (by decide));have hS:=Zo hk2 (by decide);refine knF (knF (knF (knF (knT ?_))));refine clX hL ?_
   repeat refine o40 ?_
   refine ⟨fun h9=>?_,fun h9=>?_⟩
   ·skip
    have c9:=h9
    (simp only [bsX] at c9)
    have hR:=hS.trans (if_neg (by intro ⟨q1,q2⟩;have q:=h9;rw [q1] at q;rw [q2] at q;simp at q))
    repeat refine o8 ?_
    trivial
   ·skip
    have c9:=h9
    (simp only [bsX] at c9)
    have hR:=hS.trans (if_pos (by have q:=h9;simp at q;exact ⟨q.1,Prod.ext q.2.1 q.2.2⟩))
    repeat refine o8 ?_
    trivial
  ·skip
   refine knF ?_;have hL:=ZA (s:=rdk 10 l.2) (Z2 hl (by decide) (by decide));have hS:=Zo hk2 (by decide);refine knF (knF (knF (knF (knF (knT ?_)))));refine clX (Qjm (s:=l.2) hl) ?_
   repeat refine o0 ?_
   refine clX hL ?_
   repeat refine o40 ?_
   refine ⟨fun h10=>?_,fun h10=>?_⟩
   ·skip
    have c10:=h10
    (simp only [bsX] at c10)
    have hR:=hS.trans (if_neg (by intro ⟨q1,q2⟩;have q:=h10;rw [q1] at q;rw [q2] at q;simp at q))
    repeat refine o8 ?_
    trivial
   ·skip
    have c10:=h10
    (simp only [bsX] at c10)
    have hR:=hS.trans (if_pos (by have q:=h10;simp at q;exact ⟨q.1,Prod.ext q.2.1 q.2.2⟩))
    repeat refine o8 ?_
    trivial
end
end Go.Proofs.YtcebndkiagbddaaGreatDoor
