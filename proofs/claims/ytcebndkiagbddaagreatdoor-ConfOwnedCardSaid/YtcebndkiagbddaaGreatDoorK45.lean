/- A part of the proof: contracts of functions and what they stand on. Written shorter and merged by a program (pack.py). -/
import Derived.Test.YtcebndkiagbddaaGreatDoorK43
set_option linter.unusedVariables false
set_option linter.unusedSimpArgs false
set_option maxRecDepth 100000
set_option maxHeartbeats 4000000
open List renaming getD_eq_getElem?_getD -> Qxo, length_append -> Qxp, length_cons -> Qxw
namespace Go.Proofs.YtcebndkiagbddaaGreatDoor
section
open Go.RowKit Tr
def Tr.pe:Tr->EV
 | .nil=>.rp none
 | .node p o l r=>Yq p o l r
theorem QwP {p n:List Bool} (h:(!(decide (adr p=adr n) && decide ((p.length:Int)=(n.length:Int))) && decide (p <+: n))=true):p≠n/\p <+: n:=by
 rw [Bool.and_eq_true] at h;exact ⟨fun e=>by subst e;simp at h,by simpa using h.2⟩
theorem Qrt {p n:List Bool} (hp:p.length<=32) (h:(!(decide (adr p=adr n) && decide ((p.length:Int)=(n.length:Int))) && decide (p <+: n))=false):¬ (p≠n/\p <+: n):=by
 rintro ⟨a,b⟩;rw [Xl hp a,decide_eq_true b] at h;cases h
theorem QwQ {p n:List Bool} {o:List UInt8} (h:(!(decide (adr p=adr n) && decide ((p.length:Int)=(n.length:Int))) || decide (o=[]))=true):¬ (p=n/\o≠[]):=by
 rintro ⟨rfl,k⟩;simp [k] at h
theorem QuG {p n:List Bool} {o:List UInt8} (hp:p.length<=32) (h:(!(decide (adr p=adr n) && decide ((p.length:Int)=(n.length:Int))) || decide (o=[]))=false):p=n/\o≠[]:=by
 rw [Bool.or_eq_false_iff] at h;refine ⟨?_,by simpa using h.2⟩;by_cases e:p=n
 ·exact e
 ·rw [Xl hp e] at h;cases h.1
theorem Qk4 {n:List Bool} (hn:n.length<=32):Cf Tryz.prog 18 [] [Qj [],We n] [] (.tup [.s [],.i 5]):=by
 refine QJ {} Tryz.func18 Tryz.ntmps18 ?_;refine clX (QgG (T:=.nil) trivial (by decide)) ?_
 repeat refine o51 ?_
 refine ⟨fun h1=>?_,fun h1=>?_⟩
 ·skip
  (simp only [Int.reduceToNat,UInt8.reduceOfNat] at h1)
  have c1:=h1
  (simp only [bsX] at c1)
  repeat refine o77 ?_
  trivial
 ·skip
  (simp only [Int.reduceToNat,UInt8.reduceOfNat] at h1)
  have c1:=h1
  (simp only [bsX] at c1)
  refine clX (Wh hn) ?_
  repeat refine o0 ?_
  refine ⟨fun h2=>?_,fun h2=>?_⟩
  ·skip
   (simp only [Int.reduceToNat,UInt8.reduceOfNat] at h2)
   have c2:=h2
   (simp only [bsX] at c2)
   repeat refine o77 ?_
   trivial
  ·skip
   (simp only [Int.reduceToNat,UInt8.reduceOfNat] at h2)
   have c2:=h2
   (simp only [bsX] at c2)
   refine clX Qb8 ?_
   repeat refine o51 ?_
   refine ⟨Unit,fun t=>⟨[(3,.own 1003 0),(8,.v (.pointer none))],[(1003,.box [.u32 (adr n),.i (n.length:Int)] 36)]⟩,fun t=>True,fun t=>0,(),trivial,?_,fun t hx1=>?_⟩
   ·skip
    repeat refine o0 ?_
    trivial
   refine ⟨[0,1,3,7,15,31,63,7,255,511,1023,2047,4095,8191,16383,2047,65535,131071],by kernel_rfl,?_⟩
   repeat refine o47 ?_
   refine gx (fun hc=>(show Cf Tryz.prog 60 [] [.any,We n] [] (.b false) from absurd (show false=true from hc) (by decide))) (fun hk=>⟨hk,?_⟩)
   repeat refine o39 ?_
   refine ⟨fun h3=>?_,fun h3=>?_⟩
   ·skip
    have c3:=h3
    (simp only [bsX] at c3)
    exact absurd (show false=true from h3) (by decide)
   ·skip
    have c3:=h3
    (simp only [bsX] at c3)
    refine ⟨[0,1,3,7,15,31,63,7,255,511,1023,2047,4095,8191,16383,32767,65535],by kernel_rfl,?_⟩
    repeat refine o47 ?_
    refine ⟨fun h4=>?_,fun h4=>?_⟩
    ·skip
     have c4:=h4
     (simp only [bsX] at c4)
     repeat refine o0 ?_
     trivial
    ·skip
     have c4:=h4
     (simp only [bsX] at c4)
     exact absurd (show true=false from h4) (by decide)
theorem QuH {p0 n:List Bool} {ow0:List UInt8} {l0 r0 T:Tr} (hT:T=.node p0 ow0 l0 r0) (w:T.wf) (h1:T.flat.length<=1000) (hn:n.length<=32):Cf Tryz.prog 18 [] [Qj T.flat,We n] [] (.tup [.s (Qco T n).1,.i (Qco T n).2]):=by
 refine QJ {} Tryz.func18 Tryz.ntmps18 ?_;refine clX (QgG w (by omega)) ?_
 repeat refine o10 ?_
 refine ⟨fun h1=>?_,fun h1=>?_⟩
 ·skip
  (simp only [Int.reduceToNat,UInt8.reduceOfNat] at h1)
  have c1:=h1
  (simp only [bsX] at c1)
  repeat refine o41 ?_
  trivial
 ·skip
  (simp only [Int.reduceToNat,UInt8.reduceOfNat] at h1)
  have c1:=h1
  (simp only [bsX] at c1)
  refine clX (Wh hn) ?_
  repeat refine o0 ?_
  refine ⟨fun h2=>?_,fun h2=>?_⟩
  ·skip
   (simp only [Int.reduceToNat,UInt8.reduceOfNat] at h2)
   have c2:=h2
   (simp only [bsX] at c2)
   repeat refine o41 ?_
   trivial
  ·skip
   (simp only [Int.reduceToNat,UInt8.reduceOfNat] at h2)
   have c2:=h2
   (simp only [bsX] at c2)
   refine clX (hT ▸ QmB w (by omega)) ?_
   repeat (refine Ob.mk ?_ ?_;focus (first | (intro hg;((intro hq;((simp_all;done))))) | (simp_all;done)))
   refine ⟨Tr,fun t=>⟨[(3,.own 1003 0),(8,t.pe)],[(1003,.box [.u32 (adr n),.i (n.length:Int)] 36)]⟩,fun t=>t.wf/\Wu t n=Wu T n,fun t=>t.flat.length,(.node p0 ow0 l0 r0),(by rw [<- hT];exact ⟨w,rfl⟩),?_,fun t hx1=>?_⟩
   ·skip
    repeat refine o0 ?_
    trivial
   rcases t with _ | ⟨p,o,l,r⟩
   ·skip
    have hS:Wu T n=.nil:=hx1.2.symm;refine ⟨[0,1,3,7,15,31,63,7,255,511,1023,2047,4095,8191,16383,2047,65535,131071],by kernel_rfl,?_⟩
    repeat refine o47 ?_
    refine gx (fun hc=>(show Cf Tryz.prog 60 [] [.any,We n] [] (.b false) from absurd (show false=true from hc) (by decide))) (fun hk=>⟨hk,?_⟩)
    repeat refine o39 ?_
    refine ⟨fun h3=>?_,fun h3=>?_⟩
    ·skip
     have c3:=h3
     (simp only [bsX] at c3)
     exact absurd (show false=true from h3) (by decide)
    ·skip
     have c3:=h3
     (simp only [bsX] at c3)
     refine ⟨[0,1,3,7,15,31,63,7,255,511,1023,2047,4095,8191,16383,32767,65535],by kernel_rfl,?_⟩
     repeat refine o47 ?_
     refine ⟨fun h4=>?_,fun h4=>?_⟩
     ·skip
      have c4:=h4
      (simp only [bsX] at c4)
      have hr:=QiJ hS
      repeat refine o55 ?_
      trivial
     ·skip
      have c4:=h4
      (simp only [bsX] at c4)
      exact absurd (show true=false from h4) (by decide)
   ·skip
    obtain ⟨wt,hs⟩:=hx1;have hp:=wt.1;refine ⟨[0,1,3,7,15,31,63,7,255,511,1023,2047,4095,8191,16383,2047,65535,131071],by kernel_rfl,?_⟩
    repeat refine o56 ?_
    refine gx2 (WB hp hn) (fun hk=>⟨fun _=>hk,?_⟩)
    repeat (refine Ob.mk ?_ ?_;focus (first | (intro _;exact Eq.refl _) | (exact fun hg=>ZQ hg) | (exact fun hg=>hg)))
    refine ⟨fun h3=>?_,fun h3=>?_⟩
    ·skip
     have c3:=h3
     (simp only [bsX] at c3)
     have hc1:=QwP h3;have hl:p.length < 32:=by have:=(Ym hc1.2 hc1.1).length_le;simp at this;omega
     rcases Bool.eq_false_or_eq_true (QB n p.length) with hb | hb;rcases r with _ | ⟨rp,ro,rl,rr⟩;rotate_left 2;rcases l with _ | ⟨lp,lo,ll,lr⟩
     ·skip
      refine ⟨[0,0,2,6,14,0,62,1,129,511,1023,2047],by kernel_rfl,?_⟩;refine clX (Zg hl hb) ?_
      repeat refine o14 ?_
      have hk:(Tr.nil).wf/\Wu (Tr.nil) n=Wu T n:=⟨(by exact wt.2.2.2.2.1),(by rw [<- hs,Yd hc1.1 hc1.2 hb];rfl)⟩;refine ⟨(Tr.nil),(by assumption),(by (simp only [QV];omega)),?_⟩
      repeat refine o0 ?_
      trivial
     ·skip
      refine ⟨[0,0,2,6,14,0,62,1,129,511,1023,2047],by kernel_rfl,?_⟩;refine clX (Zg hl hb) ?_
      repeat refine o14 ?_
      have hk:((Tr.node lp lo ll lr)).wf/\Wu ((Tr.node lp lo ll lr)) n=Wu T n:=⟨(by exact wt.2.2.2.2.1),(by rw [<- hs,Yd hc1.1 hc1.2 hb];rfl)⟩;refine ⟨((Tr.node lp lo ll lr)),(by assumption),(by (simp only [QV];omega)),?_⟩
      repeat refine o0 ?_
      trivial
     ·skip
      refine ⟨[0,0,2,6,14,0,62,1,129,511,1023,2047],by kernel_rfl,?_⟩;refine clX (Zg hl hb) ?_
      repeat refine o14 ?_
      have hk:(Tr.nil).wf/\Wu (Tr.nil) n=Wu T n:=⟨(by exact wt.2.2.2.2.2),(by rw [<- hs,Yd hc1.1 hc1.2 hb];rfl)⟩;refine ⟨(Tr.nil),(by assumption),(by (simp only [QV];omega)),?_⟩
      repeat refine o0 ?_
      trivial
     ·skip
      refine ⟨[0,0,2,6,14,0,62,1,129,511,1023,2047],by kernel_rfl,?_⟩;refine clX (Zg hl hb) ?_
      repeat refine o14 ?_
      have hk:((Tr.node rp ro rl rr)).wf/\Wu ((Tr.node rp ro rl rr)) n=Wu T n:=⟨(by exact wt.2.2.2.2.2),(by rw [<- hs,Yd hc1.1 hc1.2 hb];rfl)⟩;refine ⟨((Tr.node rp ro rl rr)),(by assumption),(by (simp only [QV];omega)),?_⟩
      repeat refine o0 ?_
      trivial
    ·skip
     have c3:=h3
     (simp only [bsX] at c3)
     have he:Wu T n=.node p o l r:=by rw [<- hs];exact QaV (Qrt hp h3)
     refine ⟨[0,1,3,7,15,31,63,7,255,511,1023,2047,4095,8191,16383,32767,65535],by kernel_rfl,?_⟩
     repeat refine o34 ?_
     refine ⟨fun h4=>?_,fun h4=>?_⟩
     ·skip
      have c4:=h4
      (simp only [bsX] at c4)
      have hr:=Quh he (QwQ h4)
      repeat refine o55 ?_
      trivial
     ·skip
      have c4:=h4
      (simp only [bsX] at c4)
      obtain ⟨e1,e2⟩:=QuG hp h4;subst e1;have hr:=QiK he e2
      repeat refine o55 ?_
      trivial
theorem QwR:∀ {T:Tr} {n:List Bool},T.wf->T.flat.length<=1000->n.length<=32->Cf Tryz.prog 18 [] [Qj T.flat,We n] [] (.tup [.s (Qco T n).1,.i (Qco T n).2])
 | .nil,n,_,_,hn=>by rw [QiJ (show Wu .nil n=.nil from rfl)];exact Qk4 hn
 | .node p o l r,n,w,h,hn=>QuH rfl w h hn
theorem QuI {L:List Nd} {i:Nat} (h:(!decide ((nAt L i).o=[]))=true):Yr L (i+1)=Yr L i++[⟨(nAt L i).p,(nAt L i).o,1⟩]:=by rw [Yr,h];rfl
theorem Qru {L:List Nd} {i:Nat} (h:(!decide ((nAt L i).o=[]))=false):Yr L (i+1)=Yr L i:=by rw [Yr,h];rfl
theorem QuJ (L:List Nd) (x:Nd) {m:List EV} (h2:∀ j,j < 4->m.getD j .any=ndC x j):∀ a,a < L.length+1 -> ∀ j,j < 4->(bif Nat.blt a L.length then ndF L a j else m.getD ((a - L.length) * 4+j) .any)=ndF (L++[x]) a j:=by
 intro a ha j hj;by_cases hq:a < L.length
 ·have:Nat.blt a L.length=true:=by simpa [Nat.blt_eq] using hq
  rw [this];show ndC (L.getD a default) j=ndC ((L++[x]).getD a default) j;rw [Qxo,Qxo,List.getElem?_append_left hq]
 ·obtain rfl:a=L.length:=by omega
  have:Nat.blt L.length L.length=false:=by cases hb:Nat.blt L.length L.length with | false=>rfl | true=>(rw [Nat.blt_eq] at hb;omega)
  rw [this,Nat.sub_self,Nat.zero_mul,Nat.zero_add];have e:(L++[x]).getD L.length default=x:=by rw [Qxo,List.getElem?_append_right (Nat.le_refl _)];simp
  show m.getD j .any=ndC ((L++[x]).getD L.length default) j;rw [e];exact h2 j hj
theorem Qok {T:Tr} (w:T.wf) (h1:T.flat.length<=1000):Cf Tryz.prog 19 [] [Qj T.flat] [] (.tup [Qj (Yr T.flat T.flat.length),.i 0]):=by
 refine Qr {nl:=[(5,94,4)]} Tryz.func19 Tryz.ntmps19 ?_;refine clX (QgG w (by omega)) ?_
 repeat refine o2 ?_
 refine ⟨fun h1=>?_,fun h1=>?_⟩
 ·skip
  (simp only [Int.reduceToNat,UInt8.reduceOfNat] at h1)
  have c1:=h1
  (simp only [bsX] at c1)
  exact absurd (show false=true from h1) (by decide)
 ·skip
  (simp only [Int.reduceToNat,UInt8.reduceOfNat] at h1)
  have c1:=h1
  (simp only [bsX] at c1)
  refine ⟨Nat,fun i=>⟨[(5,.osl 1005 (Yr T.flat i).length),(13,Qj T.flat),(14,.i (T.flat.length:Int)),(15,.i (i:Int))],[(1005,.rz (Yr T.flat i).length 4 (ndF (Yr T.flat i)) 94 0)]⟩,fun i=>i<=T.flat.length,fun i=>T.flat.length - i,0,by omega,?_,fun i hx1=>?_⟩
  ·skip
   repeat (refine Ob.mk ?_ ?_;focus (first | (exact fun _ _ _ _=>rfl) | (exact fun a ha=>absurd ha (Nat.not_lt_zero a)) | (exact Eq.refl _) | omega))
   trivial
  refine ⟨fun h2=>?_,fun h2=>?_⟩
  ·skip
   have c2:=h2
   (simp only [bsX] at c2)
   have hi:i < T.flat.length:=by omega
   have hK:=Qd0 T.flat i
   repeat refine o3 ?_
   refine ⟨fun h3=>?_,fun h3=>?_⟩
   ·skip
    have c3:=h3
    (simp only [bsX] at c3)
    have hA:Yr T.flat (i+1)=Yr T.flat i++[⟨(nAt T.flat i).p,(nAt T.flat i).o,1⟩]:=QuI h3;have hLen:(Yr T.flat (i+1)).length=(Yr T.flat i).length+1:=by rw [hA,Qxp];rfl
    repeat refine o23 ?_
    refine Qt (i+1) ?_
    repeat (refine Ob.mk ?_ ?_;focus (first | (rw [hLen];done) | (rw [hA];exact QuJ _ _ (fun j hj=>by rcases (by omega:j=0\/j=1\/j=2\/j=3) with rfl | rfl | rfl | rfl <;> exact Eq.refl _)) | (exact fun _ _ _ _=>rfl) | (exact Eq.refl _) | (exact Nat.le_of_ble_eq_true rfl) | (simp only [SrcE.len,Nat.zero_add,Qxp,Qxw,List.length_nil];omega)))
    trivial
   ·skip
    have c3:=h3
    (simp only [bsX] at c3)
    have hA:Yr T.flat (i+1)=Yr T.flat i:=Qru h3
    repeat refine o4 ?_
    refine Qt (i+1) ?_
    repeat (refine Ob.mk ?_ ?_;focus (first | (rw [hA];done) | (rw [hA];exact fun _ _ _ _=>rfl) | (exact fun _ _ _ _=>rfl) | (exact Eq.refl _) | omega))
    trivial
  ·skip
   have c2:=h2
   (simp only [bsX] at c2)
   have hi:i=T.flat.length:=by have:i<=T.flat.length:=hx1;omega
   subst hi;have hK:=Qd0 T.flat T.flat.length
   repeat refine o2 ?_
   trivial
end
end Go.Proofs.YtcebndkiagbddaaGreatDoor
