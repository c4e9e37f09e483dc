/- A part of the proof: contracts of functions and what they stand on. Written shorter and merged by a program (pack.py). -/
import Derived.Test.YtcebndkiagbddaaGreatDoorK20
set_option linter.unusedVariables false
set_option linter.unusedSimpArgs false
set_option maxRecDepth 100000
set_option maxHeartbeats 4000000
open List renaming map_congr_left -> Qxo
namespace Go.Proofs.YtcebndkiagbddaaGreatDoor
section
open Go.RowKit
theorem Qn6 (c:UInt32) (n:Nat):(QhC c n).toNat=c.toNat >>> n:=by
 show (c.toNat >>> n) % 2 ^ 32=_;exact Nat.mod_eq_of_lt (Nat.lt_of_le_of_lt (Nat.shiftRight_le _ _) (by have:=c.toNat_lt;omega))
theorem QqE {p q:List Bool} (h:p.length < 32):((QhC (adr q) (31 - (p.length:Int)).toNat &&& UInt32.ofNat 1).toNat:Int)=bif QB q p.length then 1 else 0:=by
 have e:(31 - (p.length:Int)).toNat=31 - p.length:=by omega
 have k:=QqD (q:=q) h;rw [e,UInt32.toNat_and,Qn6,QW,show (UInt32.ofNat 1).toNat=2 ^ 1 - 1 from rfl,Nat.and_two_pow_sub_one_eq_mod,Nat.pow_one,k];cases QB q p.length <;> rfl
theorem QqF {p q:List Bool} (h:p.length < 32):Cf Tryz.prog 61 [] [We p,We q] [] (.i (bif QB q p.length then 1 else 0)):=by
 refine Qr {} Tryz.func61 Tryz.ntmps61 ?_
 repeat (refine Ob.mk ?_ ?_;focus (first | (exact QqE h) | omega))
 trivial
theorem Zg {p q:List Bool} {b:Bool} (h:p.length < 32) (hb:QB q p.length=b):Cf Tryz.prog 61 [] [We p,We q] [] (.i (bif b then 1 else 0)):=by
 rw [<- hb];exact QqF h
theorem QaQ {p q:List Bool} {b:Bool} (hp:p.length<=32) (hq:q.length<=32) (h:p++[b] <+: q):Cf Tryz.prog 145 [] [We p,We q] [] (.b true):=by
 have hl:p.length+1<=q.length:=by have:=h.length_le;simpa using this
 refine Qr {} Tryz.func145 Tryz.ntmps145 ?_;refine gx2 (WB hp hq) (fun hk=>⟨fun _=>hk,?_⟩)
 repeat (refine Ob.mk ?_ ?_;focus (first | (rw [decide_eq_true (by omega:(p.length:Int) < (q.length:Int)),decide_eq_true (YZ h)];rfl) | (intro _;exact Eq.refl _) | (exact fun hg=>ZQ hg) | (exact fun hg=>hg)))
 trivial
end
section
open Go.RowKit
def endL:List (List UInt8):=[[],[49,46,50,46,51,46,52,58,53],[49,48,46,48,46,48,46,49,58,49,48,48,48],[49,48,46,48,46,48,46,50,58,50,48,48,48],[50,53,53,46,48,46,48,46,49,58,54,53,53,51,53]]
theorem QwA:∀ j:Fin 5,j.val≠0->Xx (endL.getD j.val [])=0:=by decide +kernel
theorem QwB:∀ j,j < 8->Wy j≠W5:=by decide +kernel
theorem QiV  : Cf Tryz.prog 51 [] [] [] (.lz 5 1 (fun i _=>.s (endL.getD i []))):=by
 refine Qr {} Tryz.func51 Tryz.ntmps51 ?_
 repeat (refine Ob.mk ?_ ?_;focus (first | (intro i hi j hj;(obtain rfl:j=0:=by omega);(have hq:i=0\/i=1\/i=2\/i=3\/i=4:=by omega);rcases hq with rfl | rfl | rfl | rfl | rfl <;> exact Eq.refl _) | (exact Eq.refl _)))
 trivial
end
section
open Go.RowKit
abbrev rA (l:List RawS) (i:Nat):RawS:=l.getD i default
theorem rA_in {l:List RawS} (hl:∀ x∈l,x.inn) {i:Nat} (hi:i < l.length):(rA l i).inn:=by
 have e:rA l i=l[i]:=by show l.getD i default=l[i];rw [List.getD_eq_getElem?_getD,List.getElem?_eq_getElem hi];rfl
 rw [e];exact hl _ (List.getElem_mem hi)
end
section
open Go.RowKit Go.Lib
def stc (s:SetS):Nat->EV
 | 0=>.i s.k
 | 1=>.s s.t
 | 2=>.i s.n
 | 3=>.u32 (adr s.p)
 | _=>.i (s.p.length:Int)
abbrev stF (L:List SetS):Nat->Nat->EV:=fun i j=>stc (L.getD i QS) j
abbrev QfG (L:List SetS):EV:=.lz L.length 5 (stF L)
theorem j5 {P:Nat->Prop} (h0:P 0) (h1:P 1) (h2:P 2) (h3:P 3) (h4:P 4):∀ j,j < 5->P j
 | 0,_=>h0
 | 1,_=>h1
 | 2,_=>h2
 | 3,_=>h3
 | 4,_=>h4
theorem lz_av {n sz:Nat} {F G:Nat->Nat->EV} (h:∀ i,i < n -> ∀ j,j < sz->(F i j).pv=(G i j).pv):(EV.lz n sz F).av=(EV.lz n sz G).av:=by
 unfold EV.av EV.pv;refine congrArg (fun l=>AV.p (PV.sl l n)) ?_
 have e:∀ i∈List.range n,(List.range sz).map (fun j=>(F i j).pv)=(List.range sz).map fun j=>(G i j).pv:=fun i hi =>
  Qxo fun j hj=>h i (List.mem_range.1 hi) j (List.mem_range.1 hj)
 rw [List.flatMap_def,List.flatMap_def,Qxo e]
def QrW (F G:Nat->Nat->EV):Nat->Prop
 | 0=>True
 | n+1=>(F n 0=G n 0/\F n 1=G n 1/\F n 2=G n 2/\F n 3=G n 3/\F n 4=G n 4)/\QrW F G n
theorem QrX {F G:Nat->Nat->EV}:∀ {N:Nat},QrW F G N -> ∀ i,i < N -> ∀ j,j < 5->F i j=G i j
 | 0,_,i,hi,_,_=>absurd hi (Nat.not_lt_zero _)
 | n+1,h,i,hi,j,hj=>by
  by_cases e:i=n
  ·subst e;exact j5 (P:=fun j=>F i j=G i j) h.1.1 h.1.2.1 h.1.2.2.1 h.1.2.2.2.1 h.1.2.2.2.2 j hj
  ·exact QrX h.2 i (by omega) j hj
end
end Go.Proofs.YtcebndkiagbddaaGreatDoor
