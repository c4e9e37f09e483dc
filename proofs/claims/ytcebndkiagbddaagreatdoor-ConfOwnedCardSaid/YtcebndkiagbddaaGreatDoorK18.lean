/- A part of the proof: contracts of functions and what they stand on. Written shorter and merged by a program (pack.py). -/
import Derived.Test.YtcebndkiagbddaaGreatDoorRows
import Derived.Lib.BitFns
import Derived.Lib.ItoaNum
import Derived.WalkKit
import Derived.ProofKit
import Derived.OpenShut
import Derived.ShutString
import Derived.ChangeOld
import Derived.Below
import Derived.Lib.SmallJoins
import Derived.Test.YtcebndkiagbddaaGreatDoorProg
import Derived.Lib.Overlaps
import Derived.Lib.AppendZerosOnto
import Derived.Laws.NewBlocks
import Derived.Laws.IdiomCopy
import Derived.Shelf.Spec.SlicesInsertGrow
import Derived.Test.YtcebndkiagbddaaGreatDoorK17
set_option linter.unusedVariables false
set_option linter.unusedSimpArgs false
set_option maxRecDepth 100000
set_option maxHeartbeats 4000000
open List renaming setIfInBounds_toArray -> Qxo, getElem_cons_zero -> Qxp, getElem_cons_succ -> Qxq, getElem_toArray -> Qxr, length_append -> Qxt, length_take -> QxV, set -> Qxx, take_append_of_le_length -> QxA, append_assoc -> QxO, take_of_length_le -> QxS, length_cons -> Qxw
open Int renaming toNat_natCast -> Qxs, eq_ofNat_of_zero_le -> Qxy, emod_lt_of_pos -> QxF
open Nat renaming shiftRight_eq_div_pow -> Qxu, le_refl -> Qxv, lt_of_lt_of_le -> QxG, shiftRight_xor_distrib -> QxN, two_pow_pos -> QxR, pow_le_pow_right -> QxT, mul_le_mul_right -> QxU
open Bool renaming cond_decide -> Qxz, not_false -> QxB, and_false -> QxC, false_and -> QxD, cond_not -> QxH, not_true -> QxI, and_true -> QxJ, true_and -> QxK, or_false -> QxL, false_or -> QxM, or_true -> QxP, true_or -> QxQ
open UInt8 renaming ofNat -> QxE
namespace Go.Proofs.YtcebndkiagbddaaGreatDoor
section
open Go.RowKit
theorem ra1 {w:World} {Pub:Nat->Nat->Prop} {φ:Qi} {x:EV} {vs:List Value} (h:RAs w Pub φ (avL [x]) vs):∃ u,vs=[u]/\RA w Pub φ x.av u:=by
 unfold avL RAs at h;obtain ⟨u,us,rfl,h1,h2⟩:=h;unfold avL RAs at h2;subst h2;exact ⟨u,rfl,h1⟩
theorem ra2 {w:World} {Pub:Nat->Nat->Prop} {φ:Qi} {x y:EV} {vs:List Value} (h:RAs w Pub φ (avL [x,y]) vs):∃ u v,vs=[u,v]/\RA w Pub φ x.av u/\RA w Pub φ y.av v:=by
 unfold avL RAs at h;obtain ⟨u,us,rfl,h1,h2⟩:=h;obtain ⟨v,rfl,h3⟩:=ra1 h2;exact ⟨u,v,rfl,h1,h3⟩
theorem Ya {w:World} {Pub:Nat->Nat->Prop} {φ:Qi} {x u:Value} (h:RA w Pub φ (EV.v x).av u):u=x:=by unfold EV.av RA RP at h;exact h
theorem Qwo {w:World} {Pub:Nat->Nat->Prop} {φ:Qi} {x:UInt8} {u:Value} (h:RA w Pub φ (EV.u8 x).av u):u=.int .u8 (x.toNat:Int):=by unfold EV.av RA b8P RP at h;exact h
theorem Qgw {l:List UInt8} {c:UInt8}:Cf Tryz.prog 146 [] [.s l,.u8 c] [] (.i (Lib.indexByte l c)) :=
 Cf.of (by kernel_rfl) fun w Pub φ vs hp hR=>by
  obtain ⟨u,v,rfl,h1,h2⟩:=ra2 hR;have e1:=Ya h1;have e2:=Qwo h2;subst e1 e2;have e3:(((c.toNat:Nat):Int).toNat.toUInt8)=c:=by rw [Qxs];exact UInt8.ofNat_toNat
  refine (Tryz.strings_IndexByte _ _ _).mono fun e w' k=>?_;rw [e3] at k;exact ⟨k.1,by rw [k.2];exact Below.refl _ _⟩
theorem Qkz {x:Int} (h1:0<=x) (h2:x < 256):QfW x=QxE x.toNat:=by
 unfold QfW;rw [Int.emod_eq_of_lt h1 h2]
theorem Qio {c:UInt8}:Cf Tryz.prog 146 [] [.s [48,49,50,51,52,53,54,55,56,57,97,98,99,100,101,102],.u8 c] [] (.i (Wx c)):=Qgw
theorem Qip {l:List UInt8}:Cf Tryz.prog 105 [] [.s l] [] (.tup [.bs (Qgv l),.i (QdQ l)]):=by
 refine QJ {} Tryz.func105 Tryz.ntmps105 ?_;refine ⟨fun h1=>?_,fun h1=>?_⟩
 ·skip
  have c1:=h1
  (simp only [bsX] at c1)
  repeat (refine Ob.mk ?_ ?_;focus (simp only [Qgv,QdQ,h1,Qxz,QxH,cond_true,cond_false,QxI,QxB,QxJ,QxK,QxC,QxD,QxP,QxQ,QxL,QxM];simp (disch:=omega) only [if_pos,if_neg];done))
  trivial
 ·skip
  have c1:=h1
  (simp only [bsX] at c1)
  repeat refine o4 ?_
  refine ⟨fun h2=>?_,fun h2=>?_⟩
  ·skip
   have c2:=h2
   (simp only [bsX] at c2)
   repeat (refine Ob.mk ?_ ?_;focus (simp only [Qgv,QdQ,h1,h2,Qxz,QxH,cond_true,cond_false,QxI,QxB,QxJ,QxK,QxC,QxD,QxP,QxQ,QxL,QxM];simp (disch:=omega) only [if_pos,if_neg];done))
   trivial
  ·skip
   have c2:=h2
   (simp only [bsX] at c2)
   repeat refine o4 ?_
   refine ⟨List UInt8,fun u=>⟨[(0,.s l),(4,.osl 60 u.length),(5,.i (2 * (u.length:Int)))],[(60,.rb u 5 0)]⟩,fun u=>Q3 (l.take (2 * u.length))=some u/\2 * u.length<=l.length,fun u=>l.length - 2 * u.length,[],⟨rfl,Nat.zero_le _⟩,?_,fun u hx1=>?_⟩
   ·skip
    repeat refine o17 ?_
    trivial
   refine ⟨fun h3=>?_,fun h3=>?_⟩
   ·skip
    have c3:=h3
    (simp only [bsX] at c3)
    obtain ⟨hu,hle⟩:=hx1;have hlt:2 * u.length+1 < l.length:=by omega
    have ha:=Qqw hu hlt;have f1:(2 * (u.length:Int)).toNat=2 * u.length:=by omega
    have f2:(2 * (u.length:Int)+1).toNat=2 * u.length+1:=by omega
    refine ⟨[0,0,3,7,0,0,32,112,255,511,1023],by kernel_rfl,?_⟩
    repeat refine o4 ?_
    refine ⟨_,_,_,_,(@Qio ?_),?_⟩
    rotate_left 1
    repeat refine o17 ?_
    refine ⟨_,_,_,_,(@Qio ?_),?_⟩
    rotate_left 1
    repeat refine o15 ?_
    refine ⟨fun h4=>?_,fun h4=>?_⟩
    ·skip
     have c4:=h4
     (simp only [bsX] at c4)
     rw [f1,f2] at c4;rw [if_pos c4] at ha;have hz:=Qky ha (by omega) (by omega);obtain ⟨z1,z2⟩:=Qt4 c1 (by omega) hz
     repeat refine o3 ?_
     trivial
    ·skip
     have c4:=h4
     (simp only [bsX] at c4)
     rw [f1,f2] at c4;have b1:=Qcy (l.getD (2 * u.length) 0);have b2:=Qcy (l.getD (2 * u.length+1) 0);rw [if_neg (fun h=>h.elim c4.1 c4.2)] at ha
     repeat (refine Ob.mk ?_ ?_;focus (first | (rw [f1,f2];exact Eq.refl _) | (exact Eq.refl _) | omega | (simp only [SrcE.len,Nat.zero_add,Qxt,Qxw,List.length_nil];omega) | (simp_all [Qgv,QdQ];omega)))
     have hnx:∀ x:UInt8,2 * (u++[x]).length=2 * u.length+2:=fun x=>by simp;omega
     have hny:Q3 (l.take (2 * (u++[QxE (16 * Wx (l.getD (2 * u.length) 0)+Wx (l.getD (2 * u.length+1) 0)).toNat]).length))=some (u++[QxE (16 * Wx (l.getD (2 * u.length) 0)+Wx (l.getD (2 * u.length+1) 0)).toNat])/\2 * (u++[QxE (16 * Wx (l.getD (2 * u.length) 0)+Wx (l.getD (2 * u.length+1) 0)).toNat]).length<=l.length:=by rw [hnx];exact ⟨ha,by omega⟩
     refine Qt (u++[QxE (16 * Wx (l.getD (2 * u.length) 0)+Wx (l.getD (2 * u.length+1) 0)).toNat]) ?_
     repeat (refine Ob.mk ?_ ?_;focus (first | (rw [f1,f2,Qkz (by omega) (by omega)];done) | (exact Eq.refl _) | (exact Nat.le_of_ble_eq_true rfl) | (simp only [SrcE.len,Nat.zero_add,Qxt,Qxw,List.length_nil];first | done | omega)))
     trivial
   ·skip
    have c3:=h3
    (simp only [bsX] at c3)
    obtain ⟨hu,hle⟩:=hx1;have he:2 * u.length=l.length:=by omega
    rw [QxS (by omega)] at hu;obtain ⟨z1,z2⟩:=Qqv c1 (by omega) hu
    repeat (refine Ob.mk ?_ ?_;focus (first | (exact Eq.refl _) | omega | (simp_all [Qgv,QdQ];done)))
    trivial
theorem Xk {l:List UInt8}:Cf Tryz.prog 62 [] [.s l] [] (.i (ZX l)):=by
 refine Qr {} Tryz.func62 Tryz.ntmps62 ?_;refine ⟨fun h1=>?_,fun h1=>?_⟩
 ·skip
  have c1:=h1
  (simp only [bsX] at c1)
  repeat (refine Ob.mk ?_ ?_;focus (simp only [ZX,h1,Qxz,QxH,cond_true,cond_false,QxI,QxB,QxJ,QxK,QxC,QxD,QxP,QxQ,QxL,QxM];simp (disch:=omega) only [if_pos,if_neg];done))
  trivial
 ·skip
  have c1:=h1
  (simp only [bsX] at c1)
  refine ⟨_,_,_,_,(@Qip ?_),?_⟩
  rotate_left 1
  repeat (refine Ob.mk ?_ ?_;focus (first | (exact Eq.refl _) | (simp only [ZX,h1,Qxz,QxH,cond_true,cond_false,QxI,QxB,QxJ,QxK,QxC,QxD,QxP,QxQ,QxL,QxM];simp (disch:=omega) only [if_pos,if_neg];done)))
  trivial
end
section
open Go.RowKit
def Z4 (n m:Int):Int:=(if n < 0 then -(n+1) else n) % m
theorem YL {n m:Int} (h:0 < m):0<=Z4 n m/\Z4 n m < m:=by
 unfold Z4;exact ⟨Int.emod_nonneg _ (by omega),QxF _ h⟩
set_option maxHeartbeats 400000 in
theorem J0 (n m:Int) (w:World) (h0 : -9223372036854775808<=n) (h1:n<=9223372036854775807) (hm:0 < m) (hm1:m<=9223372036854775807) :
  Calls Tryz.prog 27 #[.int .i64 n,.int .i64 m] w fun e w'=>e=.returned (.int .i64 (Z4 n m))/\w=w':=by
 by_cases hn:n < 0
 ·have E:=Lib.hid (show Z4 n m = -((n+1).tmod m) by unfold Z4;rw [if_pos hn,<- Int.neg_tmod,Int.tmod_eq_emod_of_nonneg (by omega)])
  go_enter Tryz.func27,Tryz.ntmps27
  go_wp2
  go_ret
  exact ⟨Vd E.out.symm,rfl⟩
 ·have E:=Lib.hid (show Z4 n m=n % m by unfold Z4;rw [if_neg hn])
  go_enter Tryz.func27,Tryz.ntmps27
  go_wp2
  go_ret
  exact ⟨Vd E.out.symm,rfl⟩
theorem Qfk (n m:Int) (r:Int) (w:World) (H:Hid (Z4 n m=r)) (h0 : -9223372036854775808<=n) (h1:n<=9223372036854775807) (hm:0 < m) (hm1:m<=9223372036854775807) :
  Calls Tryz.prog 27 #[.int .i64 n,.int .i64 m] w fun e w'=>e=.returned (.int .i64 r)/\w=w' :=
 (J0 n m w h0 h1 hm hm1).mono fun _ _ ⟨a,b⟩=>⟨by rw [a,H.out],b⟩
theorem Qmu (k:Nat) (w:World) (hk:k < 11) :
  Calls Tryz.prog 65 #[] w fun e w'=>e=.returned (.slice (some ⟨w.heap.size,0,none⟩) 11 11)/\Below w.heap.size w w'/\w.heap.size < w'.heap.size /\
   w'.cell? ⟨w.heap.size,k * 2,none⟩=some (.int .u32 (Qgz k:Int))/\w'.cell? ⟨w.heap.size,k * 2+1,none⟩=some (.int .i64 (QkC k:Int)) :=
 (Qqx w).mono fun _ _ ⟨h1,h2⟩=>by
  subst h2;refine ⟨h1,(Below.refl _ _).alloc (Qxv _) _,by simp,?_,?_⟩
  ·rw [World.cell?_alloc_new,Nat.mul_comm];exact (Qb7 k hk).1
  ·rw [World.cell?_alloc_new,Nat.mul_comm];exact (Qb7 k hk).2
abbrev Qt7 (kind a b:Int) (s:ByteArray):Value:=.agg #[.int .i64 kind,.int .i64 a,.int .i64 b,.string s]
abbrev Vu (n:Int):Prop:=-9223372036854775808<=n/\n<=9223372036854775807
def Vv (kind a b:Int):Nat:=if 0 < Z4 kind 4 then Qgz (Z4 a 11).toNat else Zl (a % 4294967296).toNat (Z4 b 33).toNat
def V3 (kind a b:Int):Nat:=if 0 < Z4 kind 4 then QkC (Z4 a 11).toNat else (Z4 b 33).toNat
set_option maxHeartbeats 800000 in
theorem Qt8 (kind a b:Int) (s:ByteArray) (w:World) (h1:Vu kind) (h2:Vu a) (hp:0 < Z4 kind 4) :
  Calls Tryz.prog 23 #[Qt7 kind a b s] w fun e w'=>e=.returned (Y5 (Vv kind a b) (V3 kind a b))/\Below w.heap.size w w':=by
 obtain ⟨q,hq⟩:=Qxy (YL (n:=a) (m:=11) (by omega)).1;have hq1:q < 11:=by have:=(YL (n:=a) (m:=11) (by omega)).2;omega
 have EA:=Lib.hid (show Vv kind a b=Qgz q by unfold Vv;rw [if_pos hp,hq,Qxs]);have EB:=Lib.hid (show V3 kind a b=QkC q by unfold V3;rw [if_pos hp,hq,Qxs]);have Q:=Lib.hid hq;clear hq
 go_enter Tryz.func23,Tryz.ntmps23
 go_wp2_with (fail)
 have hw:Below w.heap.size w ((w.alloc (Obj.cells #[.int .i64 kind,.int .i64 a,.int .i64 b,.string s] 44)).alloc (Obj.cells #[.int .u32 0,.int .i64 0] 36)):=((((Below.refl w.heap.size w).alloc (by first | exact Qxv _ | (simp;done) | (simp;omega)) _)).alloc (by first | exact Qxv _ | (simp;done) | (simp;omega)) _);have hc0_0:((w.alloc (Obj.cells #[.int .i64 kind,.int .i64 a,.int .i64 b,.string s] 44)).alloc (Obj.cells #[.int .u32 0,.int .i64 0] 36)).cell? ⟨w.heap.size,0,none⟩=some (.int .i64 kind):=Wg (QE (by first | rfl | simp) 0 rfl);have hc0_1:((w.alloc (Obj.cells #[.int .i64 kind,.int .i64 a,.int .i64 b,.string s] 44)).alloc (Obj.cells #[.int .u32 0,.int .i64 0] 36)).cell? ⟨w.heap.size,1,none⟩=some (.int .i64 a):=Wg (QE (by first | rfl | simp) 1 rfl);have hc0_2:((w.alloc (Obj.cells #[.int .i64 kind,.int .i64 a,.int .i64 b,.string s] 44)).alloc (Obj.cells #[.int .u32 0,.int .i64 0] 36)).cell? ⟨w.heap.size,2,none⟩=some (.int .i64 b):=Wg (QE (by first | rfl | simp) 2 rfl);have hc0_3:((w.alloc (Obj.cells #[.int .i64 kind,.int .i64 a,.int .i64 b,.string s] 44)).alloc (Obj.cells #[.int .u32 0,.int .i64 0] 36)).cell? ⟨w.heap.size,3,none⟩=some (.string s):=Wg (QE (by first | rfl | simp) 3 rfl);have hc1_0:((w.alloc (Obj.cells #[.int .i64 kind,.int .i64 a,.int .i64 b,.string s] 44)).alloc (Obj.cells #[.int .u32 0,.int .i64 0] 36)).cell? ⟨w.heap.size+1,0,none⟩=some (.int .u32 0):=QE (by first | rfl | simp) 0 rfl;have hc1_1:((w.alloc (Obj.cells #[.int .i64 kind,.int .i64 a,.int .i64 b,.string s] 44)).alloc (Obj.cells #[.int .u32 0,.int .i64 0] 36)).cell? ⟨w.heap.size+1,1,none⟩=some (.int .i64 0):=QE (by first | rfl | simp) 1 rfl;have hs0:w.heap.size < ((w.alloc (Obj.cells #[.int .i64 kind,.int .i64 a,.int .i64 b,.string s] 44)).alloc (Obj.cells #[.int .u32 0,.int .i64 0] 36)).heap.size:=by simp <;> omega
 have hs1:w.heap.size+1 < ((w.alloc (Obj.cells #[.int .i64 kind,.int .i64 a,.int .i64 b,.string s] 44)).alloc (Obj.cells #[.int .u32 0,.int .i64 0] 36)).heap.size:=by simp <;> omega
 have hz0:∀ o,((w.alloc (Obj.cells #[.int .i64 kind,.int .i64 a,.int .i64 b,.string s] 44)).alloc (Obj.cells #[.int .u32 0,.int .i64 0] 36)).frozen? ⟨w.heap.size,o,none⟩=false:=fun o=>Y9 (by first | (simp;done) | (simp;omega)) (W0 (by first | rfl | simp) o);have hz1:∀ o,((w.alloc (Obj.cells #[.int .i64 kind,.int .i64 a,.int .i64 b,.string s] 44)).alloc (Obj.cells #[.int .u32 0,.int .i64 0] 36)).frozen? ⟨w.heap.size+1,o,none⟩=false:=fun o=>W0 (by first | rfl | simp) o;generalize ((w.alloc (Obj.cells #[.int .i64 kind,.int .i64 a,.int .i64 b,.string s] 44)).alloc (Obj.cells #[.int .u32 0,.int .i64 0] 36))=w0 at *;have hB:Below w0.heap.size w0 w0:=Below.refl _ _
 go_wp2_with (go_at_call 27;refine (J0 _ _ _ h1.1 h1.2 (by decide) (by decide)).mono ?_;rintro e w1 ⟨rfl,rfl⟩)
 have hRB:w.heap.size+1<=w0.heap.size:=hs0;have hq2:(q:Int) < 11:=by omega
 refine wp_region_held_drew (S:=(fun w'=>Below (w.heap.size+1) w0 w' /\ ∀ b o,b < w.heap.size+1->w'.cell? ⟨b,o,none⟩=w0.cell? ⟨b,o,none⟩)) (by kernel_rfl) (by exact Qj2 (Below.refl _ _).drew) (fun hHeld=>?_)
 (refine Zb (i:=1) rfl (by kernel_rfl) (by kernel_rfl) (by kernel_rfl) (fun _ _ _ _ h=>h) hHeld (by rfl) ?_;apply Exists.intro;refine ⟨fun w1 hS1=>?_,?_⟩;(focus ((try dsimp only at hS1);go_split_ands;go_simp;first | done | with_reducible rfl | exact rfl));try simp only [Act.put,Qxo,Qxx,Qxr,Qxp,Qxq])
 (refine Zb (i:=2) rfl (by kernel_rfl) (by kernel_rfl) (by kernel_rfl) (fun _ _ _ _ h=>h) hHeld (by rfl) ?_;apply Exists.intro;refine ⟨fun w1 hS1=>?_,?_⟩;(focus ((try dsimp only at hS1);go_split_ands;go_simp;first | done | with_reducible rfl | exact rfl));try simp only [Act.put,Qxo,Qxx,Qxr,Qxp,Qxq])
 refine Qaj (i:=0) (by kernel_rfl) rfl (fun K hK=>?_)
 go_simp
 (go_at_call 65;refine (Qmu q _ hq1).mono ?_;rintro e w1 ⟨rfl,hb1,hs1',hn0,hn1⟩)
 refine hK.out _ _ (by (try dsimp only);exact Qj2 (Qbi hRB hHeld.1 hb1)) (fun hHeld=>?_);clear hK K
 try simp only [Act.put,Qxo,Qxx,Qxr,Qxp,Qxq]
 refine Qaj (i:=3) (by kernel_rfl) rfl (fun K hK=>?_)
 go_simp
 (go_at_call 65;refine (Qmu q _ hq1).mono ?_;rintro e w2 ⟨rfl,hb2,hs2',_,_⟩)
 refine hK.out _ _ (by (try dsimp only);exact Qj2 (Qbi hRB hHeld.1 hb2)) (fun hHeld=>?_);clear hK K
 try simp only [Act.put,Qxo,Qxx,Qxr,Qxp,Qxq]
 (refine Zb (i:=4) rfl (by kernel_rfl) (by kernel_rfl) (by kernel_rfl) (fun _ _ _ _ h=>h) hHeld (by rfl) ?_;apply Exists.intro;refine ⟨fun w1 hS1=>?_,?_⟩;(focus ((try dsimp only at hS1);go_split_ands;go_simp;first | done | with_reducible rfl | exact rfl));try simp only [Act.put,Qxo,Qxx,Qxr,Qxp,Qxq])
 refine Qaj (i:=5) (by kernel_rfl) rfl (fun K hK=>?_)
 go_simp
 (go_at_call 27;refine (Qfk _ _ _ _ Q h2.1 h2.2 (by decide) (by decide)).mono ?_;rintro e w3 ⟨rfl,rfl⟩)
 refine hK.out _ _ (by (try dsimp only);exact hHeld) (fun hHeld=>?_);clear hK K
 try simp only [Act.put,Qxo,Qxx,Qxr,Qxp,Qxq]
 (refine Zb (i:=6) rfl (by kernel_rfl) (by kernel_rfl) (by kernel_rfl) (fun _ _ _ _ h=>h) hHeld (by rfl) ?_;apply Exists.intro;refine ⟨fun w1 hS1=>?_,?_⟩;(focus ((try dsimp only at hS1);go_split_ands;go_simp;first | done | with_reducible rfl | exact rfl));try simp only [Act.put,Qxo,Qxx,Qxr,Qxp,Qxq])
 have hB2:Below w0.heap.size w0 w2:=Zk (Qak hb1) hb2;have m0:w2.cell? ⟨w0.heap.size,q * 2,none⟩=some (.int .u32 (Qgz q:Int)):=Qc8 hb2 hn0;have m1:w2.cell? ⟨w0.heap.size,q * 2+1,none⟩=some (.int .i64 (QkC q:Int)):=Qc8 hb2 hn1;have r0:=Qc8 hB2 hc1_0;have r1:=Qc8 hB2 hc1_1;have z0:=fun o=>Qj0 hB2 hs1 (hz1 o);have hwf:=hw.trans (hB2.mono hw.size);refine Qaj (i:=7) (by kernel_rfl) rfl (fun K hK=>?_)
 go_simp
 skip
 refine hK.out _ _ (by (try dsimp only);exact hHeld) (fun hHeld=>?_);clear hK K
 try simp only [Act.put,Qxo,Qxx,Qxr,Qxp,Qxq]
 refine Qaj (i:=8) (by kernel_rfl) rfl (fun K hK=>?_)
 go_simp
 skip
 refine hK.out _ _ (by (try dsimp only);exact Qj2 ((hHeld.1.setCell (by simp) _).setCell (by simp) _)) (fun hHeld=>?_);clear hK K
 try simp only [Act.put,Qxo,Qxx,Qxr,Qxp,Qxq]
 refine wpAnyH_done (by kernel_rfl) ?_ _
 go_wp2
 refine bodyPost_ret (v:=Y5 (Qgz q) (QkC q)) (by simp [results,Tryz.results23,go_sem,r0,r1]) rfl ⟨by rw [EA.out,EB.out],(hwf.setCell (by simp) _).setCell (by simp) _⟩
theorem QnZ (x q k:Nat) (hx:x < 4294967296) (h0:q<=k) (h:k < 32) :
  bits BinOp.andNot IntKind.u32 ((Yv x q k:Nat):Int) (2 ^ (31 - k) % 4294967296)=((Yv x q (k+1):Nat):Int):=by
 have hp:2 ^ (31 - k) < 4294967296:=by
  have:2 ^ (31 - k) < 2 ^ 32:=Nat.pow_lt_pow_right (by omega) (by omega);simpa using this
 have e:(2 ^ (31 - k) % 4294967296:Int)=((2 ^ (31 - k):Nat):Int):=by
  rw [<- Nat.mod_eq_of_lt hp,Int.natCast_emod,Int.natCast_pow];rfl
 rw [e,u32_andNot_nat _ _ (QnV x q k hx h0 (by omega)) hp,Qis x q k hx h0 h]
set_option maxHeartbeats 800000 in
theorem Qn0 (kind a b:Int) (s:ByteArray) (w:World) (h1:Vu kind) (h2:Vu b) (hp:¬ 0 < Z4 kind 4) :
  Calls Tryz.prog 23 #[Qt7 kind a b s] w fun e w'=>e=.returned (Y5 (Vv kind a b) (V3 kind a b))/\Below w.heap.size w w':=by
 obtain ⟨q,hq⟩:=Qxy (YL (n:=b) (m:=33) (by omega)).1;have hq1:q<=32:=by have:=(YL (n:=b) (m:=33) (by omega)).2;omega
 obtain ⟨x,hx⟩:=Qxy (Int.emod_nonneg a (by decide:(4294967296:Int)≠0));have hx1:x < 4294967296:=by have:=QxF a (by decide:(0:Int) < 4294967296);omega
 have EA:=Lib.hid (show Vv kind a b=Zl x q by unfold Vv;rw [if_neg hp,hx,hq,Qxs,Qxs]);have EB:=Lib.hid (show V3 kind a b=q by unfold V3;rw [if_neg hp,hq,Qxs]);have Q:=Lib.hid hq;clear hq
 go_enter Tryz.func23,Tryz.ntmps23
 go_wp2_with (fail)
 have hw:Below w.heap.size w ((w.alloc (Obj.cells #[.int .i64 kind,.int .i64 a,.int .i64 b,.string s] 44)).alloc (Obj.cells #[.int .u32 0,.int .i64 0] 36)):=((((Below.refl w.heap.size w).alloc (by first | exact Qxv _ | (simp;done) | (simp;omega)) _)).alloc (by first | exact Qxv _ | (simp;done) | (simp;omega)) _);have hc0_0:((w.alloc (Obj.cells #[.int .i64 kind,.int .i64 a,.int .i64 b,.string s] 44)).alloc (Obj.cells #[.int .u32 0,.int .i64 0] 36)).cell? ⟨w.heap.size,0,none⟩=some (.int .i64 kind):=Wg (QE (by first | rfl | simp) 0 rfl);have hc0_1:((w.alloc (Obj.cells #[.int .i64 kind,.int .i64 a,.int .i64 b,.string s] 44)).alloc (Obj.cells #[.int .u32 0,.int .i64 0] 36)).cell? ⟨w.heap.size,1,none⟩=some (.int .i64 a):=Wg (QE (by first | rfl | simp) 1 rfl);have hc0_2:((w.alloc (Obj.cells #[.int .i64 kind,.int .i64 a,.int .i64 b,.string s] 44)).alloc (Obj.cells #[.int .u32 0,.int .i64 0] 36)).cell? ⟨w.heap.size,2,none⟩=some (.int .i64 b):=Wg (QE (by first | rfl | simp) 2 rfl);have hc0_3:((w.alloc (Obj.cells #[.int .i64 kind,.int .i64 a,.int .i64 b,.string s] 44)).alloc (Obj.cells #[.int .u32 0,.int .i64 0] 36)).cell? ⟨w.heap.size,3,none⟩=some (.string s):=Wg (QE (by first | rfl | simp) 3 rfl);have hc1_0:((w.alloc (Obj.cells #[.int .i64 kind,.int .i64 a,.int .i64 b,.string s] 44)).alloc (Obj.cells #[.int .u32 0,.int .i64 0] 36)).cell? ⟨w.heap.size+1,0,none⟩=some (.int .u32 0):=QE (by first | rfl | simp) 0 rfl;have hc1_1:((w.alloc (Obj.cells #[.int .i64 kind,.int .i64 a,.int .i64 b,.string s] 44)).alloc (Obj.cells #[.int .u32 0,.int .i64 0] 36)).cell? ⟨w.heap.size+1,1,none⟩=some (.int .i64 0):=QE (by first | rfl | simp) 1 rfl;have hs0:w.heap.size < ((w.alloc (Obj.cells #[.int .i64 kind,.int .i64 a,.int .i64 b,.string s] 44)).alloc (Obj.cells #[.int .u32 0,.int .i64 0] 36)).heap.size:=by simp <;> omega
 have hs1:w.heap.size+1 < ((w.alloc (Obj.cells #[.int .i64 kind,.int .i64 a,.int .i64 b,.string s] 44)).alloc (Obj.cells #[.int .u32 0,.int .i64 0] 36)).heap.size:=by simp <;> omega
 have hz0:∀ o,((w.alloc (Obj.cells #[.int .i64 kind,.int .i64 a,.int .i64 b,.string s] 44)).alloc (Obj.cells #[.int .u32 0,.int .i64 0] 36)).frozen? ⟨w.heap.size,o,none⟩=false:=fun o=>Y9 (by first | (simp;done) | (simp;omega)) (W0 (by first | rfl | simp) o);have hz1:∀ o,((w.alloc (Obj.cells #[.int .i64 kind,.int .i64 a,.int .i64 b,.string s] 44)).alloc (Obj.cells #[.int .u32 0,.int .i64 0] 36)).frozen? ⟨w.heap.size+1,o,none⟩=false:=fun o=>W0 (by first | rfl | simp) o;generalize ((w.alloc (Obj.cells #[.int .i64 kind,.int .i64 a,.int .i64 b,.string s] 44)).alloc (Obj.cells #[.int .u32 0,.int .i64 0] 36))=w0 at *;have hB:Below w0.heap.size w0 w0:=Below.refl _ _
 go_wp2_with (go_at_call 27;first | ((with_reducible refine (Qfk b 33 q _ Q h2.1 h2.2 (by decide) (by decide)).mono ?_);rintro e w1 ⟨rfl,rfl⟩) | ((with_reducible refine (J0 kind 4 _ h1.1 h1.2 (by decide) (by decide)).mono ?_);rintro e w1 ⟨rfl,rfl⟩))
 go_loop [4,5] (fun t i=>∃ k:Nat,q<=k/\k<=32/\i=.int .i64 k/\t=.int .u32 ((Yv x q k:Nat):Int)) (fun _ i=>32 - (intOf i).toNat)
 case atStart=>exact ⟨q,Qxv _,hq1,rfl,by rw [hx,QaK]⟩
 case round =>
  obtain ⟨k,hk0,hk,rfl,rfl⟩:=hrel;by_cases hlt:k < 32
  ·go_wp2
   go_round
   case rel=>exact ⟨k+1,by omega,by omega,by go_num,by rw [QnZ x q k hx1 hk0 hlt]⟩
   case measure=>simp [intOf];omega
  ·obtain rfl:k=32:=by omega
   have E32:=Lib.hid (QkB x q)
   go_wp2
   refine bodyPost_ret (v:=Y5 (Zl x q) q) (by simp [results,Tryz.results23,go_sem,hc1_0,hc1_1,hz1,E32.out]) rfl ⟨by rw [EA.out,EB.out],(hw.setCell (by simp) _).setCell (by simp) _⟩
theorem Qt9 (kind a b:Int) (s:ByteArray) (w:World) (h1:Vu kind) (h2:Vu a) (h3:Vu b) :
  Calls Tryz.prog 23 #[Qt7 kind a b s] w fun e w'=>e=.returned (Y5 (Vv kind a b) (V3 kind a b))/\Below w.heap.size w w':=by
 by_cases hp:0 < Z4 kind 4
 ·exact Qt8 kind a b s w h1 h2 hp
 ·exact Qn0 kind a b s w h1 h3 hp
theorem Qqz (kind a b:Int):Vv kind a b < 4294967296:=by
 unfold Vv;split
 ·exact Qt5 _
 ·exact Nat.lt_of_le_of_lt (Qgy _ _) (by have:=QxF a (by decide:(0:Int) < 4294967296);omega)
theorem QdU (kind a b:Int):Zm (Vv kind a b) (V3 kind a b):=by
 unfold Vv V3;split
 ·have h:=YL (n:=a) (m:=11) (by omega);exact QnW _ (by omega)
 ·have h:=YL (n:=b) (m:=33) (by omega);exact ⟨by omega,by omega,by rw [Qxs];exact QaJ _ _⟩
theorem Qit (kind a b:Int):V3 kind a b<=32:=by have:=(QdU kind a b).2.1;omega
end
section
open Go.RowKit
set_option maxHeartbeats 400000 in
theorem Qwp (x k:Nat) (n:Int) (w:World) (e:n=(k:Int)) (hx:x < 4294967296) (hk:k<=32) :
  Calls Tryz.prog 180 #[.int .u32 (x:Int),.int .i64 n] w fun e w'=>e=.returned (.tuple #[Y5 (Zl x k) k,.int .i64 0])/\Below w.heap.size w w':=by
 subst e
 have hb:bits .and .u32 (x:Int) ((ZK k:Nat):Int)=((Zl x k:Nat):Int):=by
  rw [u32_and_nat x (ZK k) hx (QdR k),Qfj x k hx hk]
 go_enter Tryz.func180,Tryz.ntmps180
 go_wp2_with (go_at_call 103;(with_reducible refine (QaL k _ _ rfl hk).mono ?_);rintro e w1 ⟨rfl,rfl⟩)
 refine bodyPost_ret (v:=.tuple #[Y5 (Zl x k) k,.int .i64 0]) (by simp [results,Tryz.results180,go_sem]) rfl ⟨rfl,?_⟩;exact (((Below.refl _ _).alloc (Qxv _) _))
end
section
theorem Qn1 (x k:Nat) (hx:x < 2 ^ 64):Lib.bitLen x<=k↔x < 2 ^ k:=by
 constructor
 ·intro h;by_cases h0:x=0
  ·subst h0;exact QxR k
  ·exact QxG (Lib.bitLenAux_bounds 64 x hx h0).2.2 (QxT (by omega) h)
 ·intro h;exact Lib.bitLenAux_le 64 x k h
theorem Qn2 (a b k:Nat) (ha:a < 4294967296) (hb:b < 4294967296) (hk:k<=32):Zl a k=Zl b k↔(k:Int)<=32 - (Lib.bitLen (a ^^^ b):Int):=by
 have hx:a ^^^ b < 2 ^ 32:=Nat.xor_lt_two_pow (by simpa using ha) (by simpa using hb);have hx64:a ^^^ b < 2 ^ 64:=QxG hx (QxT (by omega) (by omega))
 have h1:Zl a k=Zl b k↔a / 2 ^ (32 - k)=b / 2 ^ (32 - k):=by
  unfold Zl;exact ⟨fun h=>Nat.eq_of_mul_eq_mul_right (QxR _) h,fun h=>by rw [h]⟩
 have h2:a / 2 ^ (32 - k)=b / 2 ^ (32 - k)↔a ^^^ b < 2 ^ (32 - k):=by
  rw [<- Qxu,<- Qxu];constructor
  ·intro h;have:(a ^^^ b) >>> (32 - k)=0:=by rw [QxN,h,Nat.xor_self]
   rw [Qxu] at this;exact (Nat.div_eq_zero_iff_lt (QxR _)).1 this
  ·intro h;have h3:(a ^^^ b) >>> (32 - k)=0:=by rw [Qxu];exact Nat.div_eq_of_lt h
   rw [QxN] at h3;have h4:(a >>> (32 - k)) ^^^ ((a >>> (32 - k)) ^^^ (b >>> (32 - k)))=(a >>> (32 - k)) ^^^ 0:=by rw [h3]
   rw [<- Nat.xor_assoc,Nat.xor_self,Nat.zero_xor,Nat.xor_zero] at h4;exact h4.symm
 rw [h1,h2,<- Qn1 _ _ hx64];omega
def XU (a:Nat) (n:Nat) (b:Nat) (m:Nat):Nat:=min (min n m) (32 - Lib.bitLen (a ^^^ b))
theorem Qfl (a n b m:Nat) (ha:a < 4294967296) (hb:b < 4294967296):min (min (n:Int) (m:Int)) (32 - (Lib.bitLen (a ^^^ b):Int))=(XU a n b m:Int):=by
 have hx:a ^^^ b < 2 ^ 32:=Nat.xor_lt_two_pow (by simpa using ha) (by simpa using hb);have:=Lib.bitLenAux_le 64 _ _ hx;unfold XU Lib.bitLen at *;omega
theorem Qiu (a n b m:Nat):XU a n b m<=n/\XU a n b m<=m:=by unfold XU;omega
end
section
open Go.RowKit
theorem W8 {n m:Int} (hq1 : -9223372036854775808<=n) (hq2:n<=9223372036854775807) (hm:0 < m):Cf Tryz.prog 27 [] [.i n,.i m] [] (.i (pk n m)):=by
 refine Qr {} Tryz.func27 Tryz.ntmps27 ?_;refine ⟨fun h1=>?_,fun h1=>?_⟩
 ·skip
  have c1:=h1
  (simp only [bsX] at c1)
  repeat refine o67 ?_
  trivial
 ·skip
  have c1:=h1
  (simp only [bsX] at c1)
  repeat refine o67 ?_
  trivial
end
section
open Go.ChangeShapes Go.WideShapes Go.ChangeAt Go.RowKit
open Go.ChangeMaps (open_string shut_string)
theorem own:ownKnob Tryz.prog.godebug=none:=by kernel_rfl
theorem Quf:laidOutB Tryz.prog=true:=by kernel_rfl
abbrev QbF (W:World):Nat->Nat->Prop:=fun b _=>b < W.heap.size
abbrev noG:Qi:=fun _=>none
theorem Qn8 {P:Program} {f:FuncId} {ags:List EV} (h:Cf P f [] ags [] (.b true)) {W:World} {vs:List Value} (hA:Amb W (QbF W)) (hR:RAs W (QbF W) noG (avL ags) vs) :
  Calls P f vs.toArray W fun e w'=>e=.returned (.bool true)/\Below W.heap.size W w':=by
 let E:Env:=⟨W,fun _=>False,QbF W,noG,hA,fun _ _ h=>h⟩
 have I:Inv E ((obs []).map (·.1)) noG (QbF W) (obs []) W:=by
  exact { os := rfl, tape := rfl, output := rfl, size := Qxv _, block := fun _ _ _ => rfl,
          own := fun r => by show Hp W (QbF W) noG r .dead; unfold Hp; trivial,
          mine := fun r b c h _ => (Bool.noConfusion (show false = true from h)),
          inj := fun r r' b c c' h _ _ _ => (Bool.noConfusion (show false = true from h)),
          pub0 := fun _ _ h => h, pubs := fun _ _ h => Or.inl h, publ := fun _ _ h => h, same := fun _ _ _ => rfl, kept := fun _ _ => rfl }
 refine (h.2 E noG (QbF W) W vs rfl rfl I hR).mono ?_;rintro e w' ⟨v,φ',Pub',rfl,J,hv⟩;have hv':v=.bool true:=by unfold EV.av RA RP at hv;exact hv
 subst hv';exact ⟨rfl,J.os,J.tape,J.output,J.size,fun k hk=>J.block k hk (fun h=>h)⟩
section
variable {w:World} {Pub:Nat->Nat->Prop} {φ:Qi}
theorem Qws:RAs w Pub φ (avL []) []:=by unfold avL RAs;rfl
theorem Qug {x:EV} {u:Value} {xs:List EV} {us:List Value} (h:RA w Pub φ x.av u) (k:RAs w Pub φ (avL xs) us):RAs w Pub φ (avL (x::xs)) (u::us):=by
 unfold avL RAs;exact ⟨u,us,rfl,h,k⟩
end
theorem QkO {n:Int} (h:(Lit.int .i64 n).wf=true):QiG n:=by
 have h1:IntKind.i64.min = -9223372036854775808:=rfl;have h2:IntKind.i64.max=9223372036854775807:=rfl;simp only [Lit.wf,Bool.and_eq_true,decide_eq_true_eq] at h;omega
abbrev RawIn (k a b:Int) (s:List UInt8):Prop:=QiG k/\QiG a/\QiG b/\s.length<=maxLen
end
section
open Go.RowKit
theorem Q0 {P:Program} (w:World) (dT sT ty elem:TypeId) (sz b o dLen dCap:Nat) (a:Addr) (sLen sCap:Nat) (cs:List Value)
  (hu:P.underlying dT=some (.slice elem)) (hs:Zh P elem=some sz) (hn:cs.length=Nat.min sLen dLen * sz)
  (hsrc:∀ j v,cs[j]? = some v->w.cell? (a.add j)=some v) (hc:∀ j,j < cs.length->(w.cell? ⟨b,o+j,none⟩).isSome=true) (hf:∀ j,j < cs.length->w.frozen? ⟨b,o+j,none⟩=false) (h1:∀ v∈cs,v.oneCell'=true) :
  (Builtin.copy_ #[dT,sT] ty #[.slice (some ⟨b,o,none⟩) dLen dCap,.slice (some a) sLen sCap]).run P w=.ok (goInt (Nat.min sLen dLen:Nat)) (w.setCells b o cs):=by
 have hst:=run_storeCells_cells (P:=P) b o cs 0 w (by simpa using hc) (by simpa using hf) h1;have hfc:=run_firstCells_some (P:=P) w sz (Nat.min sLen dLen) a sLen sCap cs hn hsrc;simp only [Nat.add_zero] at hst;simp [Builtin.copy_,run_underlying hu,Builtin.lenOf,Qp hs,hfc,hst]
theorem Qi9 {α:Type} (l x y:List α) (a:Nat) (h:a+x.length+y.length<=l.length):(Qs (Qs l a x) (a+x.length) y).take (a+x.length+y.length)=l.take a++x++y:=by
 rw [Yo y (a+x.length) (Qs l a x) (by rw [WG];omega),Yo x a l (by omega)]
theorem Qfy {α:Type} (l x y:List α) (a:Nat) (h:a+x.length+y.length<=l.length):(Qs (Qs l (a+x.length) y) a x).take (a+x.length+y.length)=l.take a++x++y:=by
 have h1:=WG y (a+x.length) l;rw [Qdw x (Qs l (a+x.length) y) a (by omega),Qdw y l (a+x.length) (by omega)]
 have e1:(l.take (a+x.length)++y++l.drop (a+x.length+y.length)).take a=l.take a:=by
  rw [QxO,QxA (by rw [QxV];omega),List.take_take,Nat.min_eq_left (by omega)]
 have e2:(l.take (a+x.length)++y++l.drop (a+x.length+y.length)).drop (a+x.length)=y++l.drop (a+x.length+y.length):=by
  rw [QxO,List.drop_append_of_le_length (by rw [QxV];omega),List.drop_eq_nil_of_le (by rw [QxV];omega),List.nil_append]
 rw [e1,e2,<- QxO,QxA (by simp only [Qxt,QxV];omega),QxS (by simp only [Qxt,QxV];omega)]
def QgZ (w:World) (s:Value) (t:TypeId) (sz n:Nat) (want:List Value) (e:Ending) (w':World):Prop:=∃ b' c' cur',e=.returned (.slice (some ⟨b',0,none⟩) (n+1) c')/\n+1<=c'/\c'<=maxLen /\
   w'.heap[b']? = some (.cells cur' t (0,0))/\cur'.size=c' * sz/\cur'.toList.take ((n+1) * sz)=want /\
   w'.os=w.os/\w'.tape=w.tape/\w'.output=w.output/\w.heap.size<=w'.heap.size/\(∀ x,x≠b'->x < w.heap.size->w'.heap[x]? = w.heap[x]?)/\(w.heap.size<=b'\/∃ c,s=.slice (some ⟨b',0,none⟩) n c)
theorem QcK {w:World} {s:Value} {t:TypeId} {sz n G:Nat} {want:List Value} {row:Array Value} (h1:row.size=G * sz) (h2:row.toList.take ((n+1) * sz)=want) (h3:n+1<=G) (h4:G<=maxLen) :
  QgZ w s t sz n want (.returned (.slice (some ⟨w.heap.size,0,none⟩) (n+1) G)) (w.alloc (.cells row t)).drew :=
 ⟨_,_,_,rfl,h3,h4,heap_alloc_new w _,h1,h2,rfl,rfl,rfl,by simp,fun x _ hx=>Below.heap_alloc _ _ _ hx,.inl (Qxv _)⟩
theorem Jv {w w0 w1 w2:World} {s:Value} {t:TypeId} {sz n b c o1 o2:Nat} {want xs ys:List Value} {row:Array Value} (hb:w0.heap[b]? = some (.cells row t (0,0))) (e0:w0.os=w.os/\w0.tape=w.tape/\w0.output=w.output) (hs:w.heap.size<=w0.heap.size) (ho:∀ x,x≠b->x < w.heap.size->w0.heap[x]? = w.heap[x]?)
  (e1:w1=w0.setCells b o1 xs) (e2:w2=(w1.setCells b o2 ys)\/w2=(w1.drew.setCells b o2 ys)) (h1:row.size=c * sz) (h2:(Qs (Qs row.toList o1 xs) o2 ys).take ((n+1) * sz)=want) (h3:n+1<=c) (h4:c<=maxLen) (hw:w.heap.size<=b\/∃ c,s=.slice (some ⟨b,0,none⟩) n c) :
  QgZ w s t sz n want (.returned (.slice (some ⟨b,0,none⟩) (n+1) c)) w2:=by
 have key:∀ wd:World,wd.heap=w1.heap->wd.os=w1.os->wd.tape=w1.tape->wd.output=w1.output->QgZ w s t sz n want (.returned (.slice (some ⟨b,0,none⟩) (n+1) c)) (wd.setCells b o2 ys):=by
  intro wd hd a1 a2 a3;subst e1;obtain ⟨cur1,p1,p2,p3⟩:=QC b xs o1 w0 row t _ hb;obtain ⟨cur2,q1,q2,q3⟩:=QC b ys o2 wd cur1 t _ (by rw [hd];exact p1);rw [ZF] at p3 q3;obtain ⟨s1,s2,s3⟩:=Ww b xs o1 w0;obtain ⟨r1,r2,r3⟩:=Ww b ys o2 wd;refine ⟨b,c,cur2,rfl,h3,h4,q1,by rw [q2,p2];exact h1,by rw [q3,p3];exact h2,by rw [r1,a1,s1];exact e0.1,by rw [r2,a2,s2];exact e0.2.1,by rw [r3,a3,s3];exact e0.2.2,?_,fun x hx hl=>?_,hw⟩
  ·rw [Wt,hd,Wt];exact hs
  ·rw [QR b ys o2 wd x hx,hd,QR b xs o1 w0 x hx];exact ho x hx hl
 rcases e2 with rfl | rfl
 ·exact key w1 rfl rfl rfl rfl
 ·exact key w1.drew rfl rfl rfl rfl
def InsW (P:Program) (f:FuncId) (t:TypeId) (sz:Nat):Prop :=
 ∀ (w:World) (s:Value) (n k vb vc:Nat) (cs vs:List Value) (vcur:Array Value),
  w.heap[vb]? = some (.cells vcur t (0,0))->vcur.size=vc * sz->1<=vc->vc<=maxLen->vs=vcur.toList.take sz->(∀ u∈vs,u.oneCell'=true) ->
  ((s=.slice none 0 0/\n=0/\cs=[])\/∃ b c cur,s=.slice (some ⟨b,0,none⟩) n c/\w.heap[b]? = some (.cells cur t (0,0))/\cur.size=c * sz/\n<=c/\c<=maxLen/\cs=cur.toList.take (n * sz)/\b≠vb /\ ∀ u∈cs,u.oneCell'=true) ->
  k<=n->n<=1000000000 ->
  Calls P f #[s,.int .i64 (k:Int),.slice (some ⟨vb,0,none⟩) 1 vc] w (QgZ w s t sz n (cs.take (k * sz)++vs++cs.drop (k * sz)))
theorem Cf.ins {P:Program} {f:FuncId} {t:TypeId} {sz n k:Nat} {cells xs:List EV} {eb ob:EB} (hW:InsW P f t sz) (hc:QX P f=true) (ht:t≠5) (hz:0 < sz) (he:eb.ob=.row (pvL cells) t sz 0) (hn:n * sz=cells.length) (hx:xs.length=sz) (hk:k<=n) (hb:n<=1000000000)
  (ho:ob.ob=.row (pvL (cells.take (k * sz)++xs++cells.drop (k * sz))) t sz 0) :
  Cf P f [(0,eb),(1,.row xs t sz 0)] [.osl 0 n,.i (k:Int),.osl 1 1] [(60,ob)] (.osl 60 (n+1)):=by
 refine ⟨hc,fun E φ Pub w vs e1 e2 I hR=>?_⟩;have l0:look OB.dead (obs [(0,eb),(1,EB.row xs t sz 0)]) 0=.row (pvL cells) t sz 0:=he;have l1:look OB.dead (obs [(0,eb),(1,EB.row xs t sz 0)]) 1=.row (pvL xs) t sz 0:=rfl;have hfr:∀ {m:Nat} {fr:Nat×Nat},Qhb t m fr->fr=(0,0):=fun h=>h.elim id fun h=>absurd h.2 ht;have hpx:(pvL xs).length=sz:=by rw [Qk];exact hx
 have hpc:(pvL cells).length=n * sz:=by rw [Qk];exact hn.symm
 simp only [avL,EV.av] at hR;unfold RAs at hR;obtain ⟨u0,us,rfl,r0,hR⟩:=hR;unfold RAs at hR;obtain ⟨u1,us,rfl,r1,hR⟩:=hR;unfold RAs at hR;obtain ⟨u2,us,rfl,r2,hR⟩:=hR;unfold RAs at hR;subst hR;unfold RA RP at r1;subst r1;have k1:=I.own 1;rw [l1] at k1;rcases k1 with ⟨_,q⟩ | ⟨vb,vc,vcur,vfr,p1,⟨p2,p2'⟩,p3,p4,p5,p6,p7,p8⟩
 ·rw [q] at hpx;simp at hpx;omega
 have:=hfr p2';subst this;unfold RA at r2;rcases r2 with ⟨b2,c2,q1,q2,q3⟩ | ⟨q1,_⟩
 rotate_left
 ·rw [p1] at q1;cases q1
 rw [p1] at q1;cases q1;subst q2;rw [hpx] at p5 p6 p7;have ha1:(look OB.dead (obs [(0,eb),(1,EB.row xs t sz 0)]) 1).alive=true:=by rw [l1];rfl
 have ha0:(look OB.dead (obs [(0,eb),(1,EB.row xs t sz 0)]) 0).alive=true:=by rw [l0];rfl
 have hvl:=I.lt ha1 p1;have k0:=I.own 0;rw [l0] at k0
 have hS:∃ cs,RPs w Pub (pvL cells) cs/\(∀ u∈cs,u.oneCell'=true)/\((u0=.slice none 0 0/\n=0/\cs=[])\/∃ b c cur,u0=.slice (some ⟨b,0,none⟩) n c/\w.heap[b]? = some (.cells cur t (0,0))/\cur.size=c * sz/\n<=c/\c<=maxLen/\cs=cur.toList.take (n * sz)/\b≠vb/\φ 0=some (b,c) /\ ∀ i,¬ Pub b i):=by
  unfold RA at r0;rcases k0 with ⟨g1,g2⟩ | ⟨b,c,cur,fr,g1,⟨g2,g2'⟩,g3,g4,g5,g6,g7,g8⟩
  ·rcases r0 with ⟨b,c,h1,_⟩ | ⟨_,h2,h3⟩
   ·rw [g1] at h1;cases h1
   ·exact ⟨[],by rw [g2];unfold RPs;rfl,by simp,.inl ⟨h3,h2,rfl⟩⟩
  ·have:=hfr g2';subst this;rcases r0 with ⟨b',c',h1,h2,h3⟩ | ⟨h1,_⟩
   rotate_left
   ·rw [g1] at h1;cases h1
   rw [g1] at h1;cases h1;rw [hpc] at g6 g7;exact ⟨_,g6,g7,.inr ⟨b,c,cur,h2,g2,g4,h3,g3,rfl,fun e=>by subst e;exact absurd (I.inj 0 1 _ _ _ ha0 ha1 g1 p1) (by decide),g1,fun i hi=>by have:=(g8 i hi).1;omega⟩⟩
 obtain ⟨cs,hcs,h1c,hS⟩:=hS;refine (hW w u0 n k vb vc cs (vcur.toList.take sz) vcur p2 p4 q3 p3 rfl p7 (hS.imp id fun ⟨b,c,cur,a1,a2,a3,a4,a5,a6,a7,_⟩=>⟨b,c,cur,a1,a2,a3,a4,a5,a6,a7,h1c⟩) hk hb).mono ?_;rintro e w' ⟨b',c',cur',rfl,y1,y2,y3,y4,y5,y6,y7,y8,y9,y10,y11⟩
 have hb':∀ i,¬ Pub b' i:=fun i hi=>by
  rcases y11 with h | ⟨c,h⟩
  ·exact absurd (I.publ _ _ hi) (by omega)
  ·rcases hS with ⟨h1,_⟩ | ⟨b,c2,cur,h1,_,_,_,_,_,_,_,h8⟩
   ·rw [h1] at h;cases h
   ·rw [h1] at h;cases h;exact h8 i hi
 have hH:Adv w Pub w' Pub:=fun b i hp=>⟨hp,World.cell?_of_block (a:=⟨b,i,none⟩) (y10 b (fun e=>by subst e;exact hb' i hp) (I.publ b i hp))⟩;have hlt':b' < w'.heap.size:=(Array.getElem?_eq_some_iff.1 y3).1
 have hmn:E.w0.heap.size<=b'\/E.A b':=by
  rcases y11 with h | ⟨c,h⟩
  ·rw [e1];exact .inl h
  ·rcases hS with ⟨h1,_⟩ | ⟨b,c2,cur,h1,_,_,_,_,_,_,h7,h8⟩
   ·rw [h1] at h;cases h
   ·rw [h1] at h;cases h;exact I.mine 0 _ _ ha0 h7
 have lk:∀ r,(look OB.dead (obs [(60,ob)]) r).alive=true->r=60:=fun r hr=>by
  by_cases e:60=r
  ·exact e.symm
  ·simp only [obs,Qb,if_neg e] at hr;cases hr
 have l60:look OB.dead (obs [(60,ob)]) 60=.row (pvL (cells.take (k * sz)++xs++cells.drop (k * sz))) t sz 0:=ho;refine ⟨_,fun q=>if q=60 then some (b',c') else φ q,Pub,rfl,?_,?_⟩
 ·refine I.next y6 y7 y8 y9 (fun b h hA=>y10 b (fun e=>by subst e;rcases hmn with h2 | h2;omega;exact hA h2) (by rw [e1] at h;exact h)) hH (fun _ _ h=>.inl h) (fun b i h=>QxG (I.publ b i h) y9) (fun r hr=>?_) (fun r b c hr he=>?_) (fun r r' b c c' hr hr' he he'=>?_) (fun q hq=>?_)
  ·have e:=lk r hr;subst e;rw [l60]
   have hlen:(pvL (cells.take (k * sz)++xs++cells.drop (k * sz))).length=(n+1) * sz:=by
    have hks:k * sz<=n * sz:=QxU _ hk;rw [Qk,Qxt,Qxt,QxV,List.length_drop,hx,Nat.add_mul];omega
   have hq:RPs w' Pub (pvL (cells.take (k * sz)++xs++cells.drop (k * sz))) (cs.take (k * sz)++vcur.toList.take sz++cs.drop (k * sz)):=by
    rw [JS,JS,Qds,Qdr];exact Z5 (Z5 (Qab _ (WE hH _ _ hcs)) (WE hH _ _ p6)) (QcR _ (WE hH _ _ hcs))
   refine .inr ⟨b',c',cur',(0,0),if_pos rfl,⟨y3,.inl rfl⟩,y2,y4,?_,?_,?_,fun i hi=>absurd hi (hb' i)⟩
   ·rw [hlen,y4];exact QxU _ y1
   ·rw [hlen,y5];exact hq
   ·rw [hlen,y5];intro u hu;rcases List.mem_append.1 hu with hu | hu
    ·rcases List.mem_append.1 hu with hu | hu
     ·exact h1c u (List.mem_of_mem_take hu)
     ·exact p7 u hu
    ·exact h1c u (List.mem_of_mem_drop hu)
  ·have e:=lk r hr;subst e;simp at he;obtain ⟨rfl,rfl⟩:=he;exact hmn
  ·exact (lk r hr).trans (lk r' hr').symm
  ·refine if_neg fun e=>?_;subst e;simp [obs] at hq
 ·unfold EV.av RA;exact .inl ⟨b',c',if_pos rfl,rfl,y1⟩
end
end Go.Proofs.YtcebndkiagbddaaGreatDoor
