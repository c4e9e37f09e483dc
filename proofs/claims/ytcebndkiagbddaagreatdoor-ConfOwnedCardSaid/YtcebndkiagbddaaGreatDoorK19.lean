/- A part of the proof: contracts of functions and what they stand on. Written shorter and merged by a program (pack.py). -/
import Derived.SliceStrings
import Derived.Test.YtcebndkiagbddaaGreatDoorK18
set_option linter.unusedVariables false
set_option linter.unusedSimpArgs false
set_option maxRecDepth 100000
set_option maxHeartbeats 4000000
open List renaming setIfInBounds_toArray -> Qxo, getElem_cons_zero -> Qxp, getElem_cons_succ -> Qxq, getElem_toArray -> Qxr, length_drop -> Qxs, length_take -> Qxt, take_of_length_le -> Qxv, take_append_of_le_length -> Qxw, set -> QxB, length_append -> QxC, append_assoc -> QxE, getElem?_take -> QxG, nil_prefix -> QxH, cons_prefix_cons -> QxI, size_toArray -> QxK, mem_of_mem_drop -> QxM, getD_eq_getElem?_getD -> QxN, getElem?_drop -> QxO, getElem?_append_right -> QxQ, range -> QxR, drop_of_length_le -> QxT
open Array renaming getElem?_eq_getElem -> Qxu, length_toList -> Qxx, toList_append -> Qxz, size_append -> QxD, getElem?_eq_some_iff -> QxJ
open Nat renaming le_refl -> Qxy, min_eq_left -> QxA, zero_add -> QxF, min -> QxL, mul_one -> QxP, min_self -> QxS, mul_le_mul_right -> QxU
open List.IsPrefix renaming trans -> QxV
namespace Go.Proofs.YtcebndkiagbddaaGreatDoor
section
open Go.RowKit
set_option maxHeartbeats 1600000 in
theorem QqA (a b n m:Nat) (w:World) (ha:a < 4294967296) (hb':b < 4294967296) (va:Zm a n) (vb:Zm b m) :
  Calls Tryz.prog 144 #[Y5 a n,Y5 b m] w fun e w'=>e=.returned (.tuple #[Y5 (Zl a (XU a n b m)) (XU a n b m),.int .i64 0])/\Below w.heap.size w w':=by
 have Ha:=Lib.hid (WL.2 va);have Hb:=Lib.hid (WL.2 vb);have hn:n<=32:=by have:=va.2.1;omega
 have hm:m<=32:=by have:=vb.2.1;omega
 clear va vb
 go_enter Tryz.func144,Tryz.ntmps144
 have i0:∀ w,(Instr.index 270 (.agg #[.int .u32 (a:Int),.int .i64 (n:Int),.int .u32 (b:Int),.int .i64 (m:Int)]) (.int .i64 0)).run Tryz.prog w=.ok (Y5 a n) w:=fun _=>by kernel_rfl
 have i1:∀ w,(Instr.index 270 (.agg #[.int .u32 (a:Int),.int .i64 (n:Int),.int .u32 (b:Int),.int .i64 (m:Int)]) (.int .i64 1)).run Tryz.prog w=.ok (Y5 b m) w:=fun _=>by kernel_rfl
 go_wp2_with (fail)
 have hw:Below w.heap.size w (((w.alloc (Obj.cells #[.int .u32 (a:Int),.int .i64 (n:Int)] 36)).alloc (Obj.cells #[.int .u32 (b:Int),.int .i64 (m:Int)] 36)).alloc (Obj.cells #[.int .u32 0,.int .i64 0] 36)):=((((((Below.refl w.heap.size w).alloc (by first | exact Qxy _ | (simp;done) | (simp;omega)) _)).alloc (by first | exact Qxy _ | (simp;done) | (simp;omega)) _)).alloc (by first | exact Qxy _ | (simp;done) | (simp;omega)) _);have hc0_0:(((w.alloc (Obj.cells #[.int .u32 (a:Int),.int .i64 (n:Int)] 36)).alloc (Obj.cells #[.int .u32 (b:Int),.int .i64 (m:Int)] 36)).alloc (Obj.cells #[.int .u32 0,.int .i64 0] 36)).cell? ⟨w.heap.size,0,none⟩=some (.int .u32 (a:Int)):=Wg (Wg (QE (by first | rfl | simp) 0 rfl));have hc0_1:(((w.alloc (Obj.cells #[.int .u32 (a:Int),.int .i64 (n:Int)] 36)).alloc (Obj.cells #[.int .u32 (b:Int),.int .i64 (m:Int)] 36)).alloc (Obj.cells #[.int .u32 0,.int .i64 0] 36)).cell? ⟨w.heap.size,1,none⟩=some (.int .i64 (n:Int)):=Wg (Wg (QE (by first | rfl | simp) 1 rfl));have hc1_0:(((w.alloc (Obj.cells #[.int .u32 (a:Int),.int .i64 (n:Int)] 36)).alloc (Obj.cells #[.int .u32 (b:Int),.int .i64 (m:Int)] 36)).alloc (Obj.cells #[.int .u32 0,.int .i64 0] 36)).cell? ⟨w.heap.size+1,0,none⟩=some (.int .u32 (b:Int)):=Wg (QE (by first | rfl | simp) 0 rfl);have hc1_1:(((w.alloc (Obj.cells #[.int .u32 (a:Int),.int .i64 (n:Int)] 36)).alloc (Obj.cells #[.int .u32 (b:Int),.int .i64 (m:Int)] 36)).alloc (Obj.cells #[.int .u32 0,.int .i64 0] 36)).cell? ⟨w.heap.size+1,1,none⟩=some (.int .i64 (m:Int)):=Wg (QE (by first | rfl | simp) 1 rfl);have hc2_0:(((w.alloc (Obj.cells #[.int .u32 (a:Int),.int .i64 (n:Int)] 36)).alloc (Obj.cells #[.int .u32 (b:Int),.int .i64 (m:Int)] 36)).alloc (Obj.cells #[.int .u32 0,.int .i64 0] 36)).cell? ⟨w.heap.size+1+1,0,none⟩=some (.int .u32 0):=QE (by first | rfl | simp) 0 rfl
 have hc2_1:(((w.alloc (Obj.cells #[.int .u32 (a:Int),.int .i64 (n:Int)] 36)).alloc (Obj.cells #[.int .u32 (b:Int),.int .i64 (m:Int)] 36)).alloc (Obj.cells #[.int .u32 0,.int .i64 0] 36)).cell? ⟨w.heap.size+1+1,1,none⟩=some (.int .i64 0):=QE (by first | rfl | simp) 1 rfl;have hs0:w.heap.size < (((w.alloc (Obj.cells #[.int .u32 (a:Int),.int .i64 (n:Int)] 36)).alloc (Obj.cells #[.int .u32 (b:Int),.int .i64 (m:Int)] 36)).alloc (Obj.cells #[.int .u32 0,.int .i64 0] 36)).heap.size:=by simp <;> omega
 have hs1:w.heap.size+1 < (((w.alloc (Obj.cells #[.int .u32 (a:Int),.int .i64 (n:Int)] 36)).alloc (Obj.cells #[.int .u32 (b:Int),.int .i64 (m:Int)] 36)).alloc (Obj.cells #[.int .u32 0,.int .i64 0] 36)).heap.size:=by simp <;> omega
 have hs2:w.heap.size+1+1 < (((w.alloc (Obj.cells #[.int .u32 (a:Int),.int .i64 (n:Int)] 36)).alloc (Obj.cells #[.int .u32 (b:Int),.int .i64 (m:Int)] 36)).alloc (Obj.cells #[.int .u32 0,.int .i64 0] 36)).heap.size:=by simp <;> omega
 have hz0:∀ o,(((w.alloc (Obj.cells #[.int .u32 (a:Int),.int .i64 (n:Int)] 36)).alloc (Obj.cells #[.int .u32 (b:Int),.int .i64 (m:Int)] 36)).alloc (Obj.cells #[.int .u32 0,.int .i64 0] 36)).frozen? ⟨w.heap.size,o,none⟩=false:=fun o=>Y9 (by first | (simp;done) | (simp;omega)) (Y9 (by first | (simp;done) | (simp;omega)) (W0 (by first | rfl | simp) o));have hz1:∀ o,(((w.alloc (Obj.cells #[.int .u32 (a:Int),.int .i64 (n:Int)] 36)).alloc (Obj.cells #[.int .u32 (b:Int),.int .i64 (m:Int)] 36)).alloc (Obj.cells #[.int .u32 0,.int .i64 0] 36)).frozen? ⟨w.heap.size+1,o,none⟩=false:=fun o=>Y9 (by first | (simp;done) | (simp;omega)) (W0 (by first | rfl | simp) o);have hz2:∀ o,(((w.alloc (Obj.cells #[.int .u32 (a:Int),.int .i64 (n:Int)] 36)).alloc (Obj.cells #[.int .u32 (b:Int),.int .i64 (m:Int)] 36)).alloc (Obj.cells #[.int .u32 0,.int .i64 0] 36)).frozen? ⟨w.heap.size+1+1,o,none⟩=false:=fun o=>W0 (by first | rfl | simp) o;generalize (((w.alloc (Obj.cells #[.int .u32 (a:Int),.int .i64 (n:Int)] 36)).alloc (Obj.cells #[.int .u32 (b:Int),.int .i64 (m:Int)] 36)).alloc (Obj.cells #[.int .u32 0,.int .i64 0] 36))=w0 at *;have hB:Below w0.heap.size w0 w0:=Below.refl _ _
 go_loopw [12] (fun i wr=>∃ k:Nat,k<=2/\i=.int .i64 (k:Int)/\Below w0.heap.size w0 wr) (fun i _=>2 - (intOf i).toNat)
 case atStart=>exact ⟨0,by omega,rfl,hB⟩
 case round =>
  obtain ⟨k,hk,rfl,hB⟩:=hrel;by_cases h0:k=0
  ·subst h0
   go_wp2_with (go_at_call 58;(with_reducible refine (ZY _ _ _ _ ha Ha).mono ?_);rintro e w2 ⟨rfl,hb2⟩)
   exact ⟨⟨1,by omega,rfl,(hB.alloc hB.size _).trans (hb2.mono (hB.alloc hB.size _).size)⟩,by simp [intOf]⟩
  ·by_cases h1:k=1
   ·subst h1
    go_wp2_with (go_at_call 58;(with_reducible refine (ZY _ _ _ _ hb' Hb).mono ?_);rintro e w2 ⟨rfl,hb2⟩)
    exact ⟨⟨2,by omega,rfl,(hB.alloc hB.size _).trans (hb2.mono (hB.alloc hB.size _).size)⟩,by simp [intOf]⟩
   ·obtain rfl:k=2:=by omega
    have hc:=(Qc7 hB).1;have hx:bits .xor .u32 (a:Int) (b:Int)=((a ^^^ b:Nat):Int):=u32_xor_nat a b ha hb';have hRB:w.heap.size+1+1<=w0.heap.size:=Nat.le_of_lt hs2;have hxb:a ^^^ b < 4294967296:=Nat.xor_lt_two_pow (n:=32) ha hb'
    have hmin:(if 32 - (Lib.bitLen (a ^^^ b):Int) < (if m < n then (m:Int) else (n:Int)) then 32 - (Lib.bitLen (a ^^^ b):Int) else if m < n then (m:Int) else (n:Int))=(XU a n b m:Int):=by
     have:=Qfl a n b m ha hb';split <;> split <;> omega
    go_wp2_with (fail)
    refine wp_region_held_drew (S:=(fun w'=>Below (w.heap.size+1+1) w0 w' /\ ∀ b o,b < w.heap.size+1+1->w'.cell? ⟨b,o,none⟩=w0.cell? ⟨b,o,none⟩)) (by kernel_rfl) (by exact Qj2 ((hB.mono hRB).drew)) (fun hHeld=>?_)
    (refine Zb (i:=0) rfl (by kernel_rfl) (by kernel_rfl) (by kernel_rfl) (fun _ _ _ _ h=>h) hHeld (by rfl) ?_;apply Exists.intro;refine ⟨fun w1 hS1=>?_,?_⟩;(focus ((try dsimp only at hS1);go_split_ands;go_simp;first | done | with_reducible rfl | exact rfl));try simp only [Act.put,Qxo,QxB,Qxr,Qxp,Qxq])
    (refine Zb (i:=1) rfl (by kernel_rfl) (by kernel_rfl) (by kernel_rfl) (fun _ _ _ _ h=>h) hHeld (by rfl) ?_;apply Exists.intro;refine ⟨fun w1 hS1=>?_,?_⟩;(focus ((try dsimp only at hS1);go_split_ands;go_simp;first | done | with_reducible rfl | exact rfl));try simp only [Act.put,Qxo,QxB,Qxr,Qxp,Qxq])
    (refine Zb (i:=2) rfl (by kernel_rfl) (by kernel_rfl) (by kernel_rfl) (fun _ _ _ _ h=>h) hHeld (by rfl) ?_;apply Exists.intro;refine ⟨fun w1 hS1=>?_,?_⟩;(focus ((try dsimp only at hS1);go_split_ands;go_simp;first | done | with_reducible rfl | exact rfl));try simp only [Act.put,Qxo,QxB,Qxr,Qxp,Qxq])
    (refine Zb (i:=3) rfl (by kernel_rfl) (by kernel_rfl) (by kernel_rfl) (fun _ _ _ _ h=>h) hHeld (by rfl) ?_;apply Exists.intro;refine ⟨fun w1 hS1=>?_,?_⟩;(focus ((try dsimp only at hS1);go_split_ands;go_simp;first | done | with_reducible rfl | exact rfl));try simp only [Act.put,Qxo,QxB,Qxr,Qxp,Qxq])
    (refine Zb (i:=4) rfl (by kernel_rfl) (by kernel_rfl) (by kernel_rfl) (fun _ _ _ _ h=>h) hHeld (by rfl) ?_;apply Exists.intro;refine ⟨fun w1 hS1=>?_,?_⟩;(focus ((try dsimp only at hS1);go_split_ands;go_simp;first | done | with_reducible rfl | exact rfl));try simp only [Act.put,Qxo,QxB,Qxr,Qxp,Qxq])
    (refine Zb (i:=5) rfl (by kernel_rfl) (by kernel_rfl) (by kernel_rfl) (fun _ _ _ _ h=>h) hHeld (by rfl) ?_;apply Exists.intro;refine ⟨fun w1 hS1=>?_,?_⟩;(focus ((try dsimp only at hS1);go_split_ands;go_simp;first | done | with_reducible rfl | exact rfl));try simp only [Act.put,Qxo,QxB,Qxr,Qxp,Qxq])
    (refine Zb (i:=6) rfl (by kernel_rfl) (by kernel_rfl) (by kernel_rfl) (fun _ _ _ _ h=>h) hHeld (by rfl) ?_;apply Exists.intro;refine ⟨fun w1 hS1=>?_,?_⟩;(focus ((try dsimp only at hS1);go_split_ands;go_simp;first | done | with_reducible rfl | exact rfl));try simp only [Act.put,Qxo,QxB,Qxr,Qxp,Qxq])
    (refine Zb (i:=7) rfl (by kernel_rfl) (by kernel_rfl) (by kernel_rfl) (fun _ _ _ _ h=>h) hHeld (by rfl) ?_;apply Exists.intro;refine ⟨fun w1 hS1=>?_,?_⟩;(focus ((try dsimp only at hS1);go_split_ands;go_simp;first | done | with_reducible rfl | exact rfl));try simp only [Act.put,Qxo,QxB,Qxr,Qxp,Qxq])
    (refine Zb (i:=8) rfl (by kernel_rfl) (by kernel_rfl) (by kernel_rfl) (fun _ _ _ _ h=>h) hHeld (by rfl) ?_;apply Exists.intro;refine ⟨fun w1 hS1=>?_,?_⟩;(focus ((try dsimp only at hS1);go_split_ands;go_simp;first | done | with_reducible rfl | exact rfl));try simp only [Act.put,Qxo,QxB,Qxr,Qxp,Qxq])
    (refine Zb (i:=9) rfl (by kernel_rfl) (by kernel_rfl) (by kernel_rfl) (fun _ _ _ _ h=>h) hHeld (by rfl) ?_;apply Exists.intro;refine ⟨fun w1 hS1=>?_,?_⟩;(focus ((try dsimp only at hS1);go_split_ands;go_simp;first | done | with_reducible rfl | exact rfl));try simp only [Act.put,Qxo,QxB,Qxr,Qxp,Qxq])
    (refine Zb (i:=10) rfl (by kernel_rfl) (by kernel_rfl) (by kernel_rfl) (fun _ _ _ _ h=>h) hHeld (by rfl) ?_;apply Exists.intro;refine ⟨fun w1 hS1=>?_,?_⟩;(focus ((try dsimp only at hS1);go_split_ands;go_simp;first | done | with_reducible rfl | exact rfl));try simp only [Act.put,Qxo,QxB,Qxr,Qxp,Qxq])
    refine Qaj (i:=11) (by kernel_rfl) rfl (fun K hK=>?_)
    go_simp
    (go_at_call 181;(with_reducible refine (Tryz.bits_LeadingZeros32 _ _ (by omega) (by omega)).mono ?_);rintro e w1 ⟨rfl,rfl⟩;rw [Int.toNat_natCast])
    refine hK.out _ _ (by (try dsimp only);exact hHeld) (fun hHeld=>?_);clear hK K
    try simp only [Act.put,Qxo,QxB,Qxr,Qxp,Qxq]
    (refine Zb (i:=12) rfl (by kernel_rfl) (by kernel_rfl) (by kernel_rfl) (fun _ _ _ _ h=>h) hHeld (by rfl) ?_;apply Exists.intro;refine ⟨fun w1 hS1=>?_,?_⟩;(focus ((try dsimp only at hS1);go_split_ands;go_simp;first | done | with_reducible rfl | exact rfl));try simp only [Act.put,Qxo,QxB,Qxr,Qxp,Qxq])
    have hpl:=Qiu a n b m;refine Qaj (i:=13) (by kernel_rfl) rfl (fun K hK=>?_)
    go_simp
    (go_at_call 180;(refine (Qwp a (XU a n b m) _ _ (by first | rfl | exact hmin) ha (by omega)).mono ?_);rintro e w1 ⟨rfl,hb1⟩)
    refine hK.out _ _ (by (try dsimp only);exact Qj2 (Qbi hRB hHeld.1 hb1)) (fun hHeld=>?_);clear hK K
    try simp only [Act.put,Qxo,QxB,Qxr,Qxp,Qxq]
    (refine Zb (i:=14) rfl (by kernel_rfl) (by kernel_rfl) (by kernel_rfl) (fun _ _ _ _ h=>h) hHeld (by rfl) ?_;apply Exists.intro;refine ⟨fun w1 hS1=>?_,?_⟩;(focus ((try dsimp only at hS1);go_split_ands;go_simp;first | done | with_reducible rfl | exact rfl));try simp only [Act.put,Qxo,QxB,Qxr,Qxp,Qxq])
    (refine Zb (i:=15) rfl (by kernel_rfl) (by kernel_rfl) (by kernel_rfl) (fun _ _ _ _ h=>h) hHeld (by rfl) ?_;apply Exists.intro;refine ⟨fun w1 hS1=>?_,?_⟩;(focus ((try dsimp only at hS1);go_split_ands;go_simp;first | done | with_reducible rfl | exact rfl));try simp only [Act.put,Qxo,QxB,Qxr,Qxp,Qxq])
    have hB1:Below w0.heap.size w0 w1:=Zk hB (Qak hb1);have r0:=Qc8 hB1 hc2_0;have r1:=Qc8 hB1 hc2_1;have z0:=fun o=>Qj0 hB1 hs2 (hz2 o);have hwf:=hw.trans (hB1.mono hw.size);refine Qaj (i:=16) (by kernel_rfl) rfl (fun K hK=>?_)
    go_simp
    skip
    refine hK.out _ _ (by (try dsimp only);exact Qj2 ((hHeld.1.setCell (Qxy _) _).setCell (Qxy _) _)) (fun hHeld=>?_);clear hK K
    try simp only [Act.put,Qxo,QxB,Qxr,Qxp,Qxq]
    refine Qaj (i:=17) (by kernel_rfl) rfl (fun K hK=>?_)
    go_simp
    skip
    refine hK.out _ _ (by (try dsimp only);exact hHeld) (fun hHeld=>?_);clear hK K
    try simp only [Act.put,Qxo,QxB,Qxr,Qxp,Qxq]
    refine wpAnyH_done (by kernel_rfl) ?_ _
    go_wp2_with (fail)
    refine bodyPost_ret (v:=.tuple #[Y5 (Zl a (XU a n b m)) (XU a n b m),.int .i64 0]) (by simp [results,Tryz.results144,go_sem,r0,r1]) rfl ⟨rfl,(hwf.setCell (by simp;omega) _).setCell (by simp;omega) _⟩
end
section
inductive Tr where
 | nil:Tr
 | node:List Bool->List UInt8->Tr->Tr->Tr
structure Nd where
 p:List Bool
 o:List UInt8
 s:Nat
 deriving Inhabited
namespace Tr
def flat:Tr->List Nd
 | nil=>[]
 | node p o l r=>⟨p,o,l.flat.length+r.flat.length+1⟩::(l.flat++r.flat)
def und (q:List Bool):Tr->Prop
 | nil=>True
 | node p _ _ _=>q <+: p
def wf:Tr->Prop
 | nil=>True
 | node p o l r=>p.length<=32/\l.und (p++[false])/\r.und (p++[true])/\(o=[]->l≠nil/\r≠nil)/\l.wf/\r.wf
def has:Tr->List Bool->List UInt8->Prop
 | nil,_,_=>False
 | node p o l r,m,y=>(m=p/\y=o/\o≠[])\/l.has m y\/r.has m y
end Tr
open Tr
abbrev QB (q:List Bool) (k:Nat):Bool:=q.getD k false
def Wr:List Bool->List Bool->List Bool
 | a::p,b::q=>if a=b then a::Wr p q else []
 | _,_=>[]
def W4:Tr->List Bool->List UInt8->Tr
 | .nil,n,o=>.node n o .nil .nil
 | .node p x l r,n,o =>
  if p=n then .node n o l r
  else if p <+: n then bif QB n p.length then .node p x l (W4 r n o) else .node p x (W4 l n o) r
  else if n <+: p then bif QB p n.length then .node n o .nil (.node p x l r) else .node n o (.node p x l r) .nil
  else bif QB n (Wr p n).length then .node (Wr p n) [] (.node p x l r) (.node n o .nil .nil) else .node (Wr p n) [] (.node n o .nil .nil) (.node p x l r)
theorem J1:∀ p q:List Bool,Wr p q <+: p
 | [],_=>by unfold Wr;exact QxH
 | _::_,[]=>by unfold Wr;exact QxH
 | a::p,b::q=>by
  unfold Wr;by_cases h:a=b
  ·rw [if_pos h];exact QxI.2 ⟨rfl,J1 p q⟩
  ·rw [if_neg h];exact QxH
theorem QbC:∀ p q:List Bool,Wr p q <+: q
 | [],_=>by unfold Wr;exact QxH
 | _::_,[]=>by unfold Wr;exact QxH
 | a::p,b::q=>by
  unfold Wr;by_cases h:a=b
  ·rw [if_pos h,<- h];exact QxI.2 ⟨rfl,QbC p q⟩
  ·rw [if_neg h];exact QxH
theorem QaM:∀ {f p q:List Bool},f <+: p->f <+: q->f <+: Wr p q
 | [],_,_,_,_=>QxH
 | a::f,[],_,h,_=>by simp at h
 | a::f,_::_,[],_,h=>by simp at h
 | a::f,b::p,c::q,h1,h2=>by
  obtain ⟨e1,k1⟩:=QxI.1 h1;obtain ⟨e2,k2⟩:=QxI.1 h2;unfold Wr;rw [if_pos (e1.symm.trans e2)];exact QxI.2 ⟨e1,QaM k1 k2⟩
theorem Ym {p n:List Bool} (h:p <+: n) (hne:p≠n):p++[QB n p.length] <+: n:=by
 obtain ⟨t,rfl⟩:=h
 cases t with
 | nil=>simp at hne
 | cons a t =>
  have:QB (p++a::t) p.length=a:=by unfold QB;rw [QxN,QxQ (Qxy _)];simp
  rw [this];exact ⟨t,by simp⟩
theorem Yw {p n:List Bool} {b:Bool} (h:p++[b] <+: n):QB n p.length=b:=by
 obtain ⟨t,rfl⟩:=h;unfold QB;rw [QxN,QxE,QxQ (Qxy _)];simp
theorem YZ {p n:List Bool} {b:Bool} (h:p++[b] <+: n):p <+: n:=(List.prefix_append p [b]).trans h
theorem Xv {p n:List Bool} {b:Bool} (h:p++[b] <+: n):p≠n:=by
 rintro rfl;have:=h.length_le;simp at this;omega
theorem XV {p n:List Bool} {b c:Bool} (h:p++[b] <+: n) (h':p++[c] <+: n):b=c:=(Yw h).symm.trans (Yw h')
theorem QaN {p q:List Bool} (h:p <+: q) (h':q <+: p):p=q:=h.eq_of_length_le h'.length_le
theorem Qfm {p n:List Bool} (h1:¬ p <+: n) (h2:¬ n <+: p):Wr p n++[QB p (Wr p n).length] <+: p/\Wr p n++[QB n (Wr p n).length] <+: n/\QB p (Wr p n).length = !QB n (Wr p n).length:=by
 have a:=Ym (J1 p n) (fun e=>h1 (by rw [<- e];exact QbC p n));have b:=Ym (QbC p n) (fun e=>h2 (by rw [<- e];exact J1 p n));refine ⟨a,b,?_⟩;cases hp:QB p (Wr p n).length <;> cases hn:QB n (Wr p n).length <;> first | rfl | exfalso
 all_goals
  rw [hp] at a;rw [hn] at b;have:=(QaM a b).length_le;simp at this;omega
theorem Zf:∀ {T:Tr} {q m:List Bool} {y:List UInt8},T.wf->T.und q->T.has m y->q <+: m
 | .nil,_,_,_,_,_,h=>h.elim
 | .node p o l r,q,m,y,w,u,h=>by
  obtain ⟨_,ul,ur,_,wl,wr⟩:=w;rcases h with ⟨rfl,_⟩ | h | h
  ·exact u
  ·exact QxV u (YZ (Zf wl ul h))
  ·exact QxV u (YZ (Zf wr ur h))
theorem Qmv:∀ {T:Tr} {n:List Bool} {o:List UInt8},W4 T n o≠.nil
 | .nil,n,o=>by unfold W4;intro h;cases h
 | .node p x l r,n,o=>by
  unfold W4
  repeat' split
  all_goals first | (intro h;cases h;done) | (cases QB n p.length <;> intro h <;> cases h;done) | (cases QB p n.length <;> intro h <;> cases h;done) | (cases QB n (Wr p n).length <;> intro h <;> cases h;done)
theorem Qiv:∀ {T:Tr} {q n:List Bool} {o:List UInt8},T.und q->q <+: n->(W4 T n o).und q
 | .nil,q,n,o,_,h=>by unfold W4;exact h
 | .node p x l r,q,n,o,u,h=>by
  have u':q <+: p:=u;unfold W4;split
  ·exact h
  split
  ·cases QB n p.length <;> exact u'
  split
  ·cases QB p n.length <;> exact h
  ·cases QB n (Wr p n).length <;> exact QaM u' h
theorem Qcz:∀ {T:Tr} {n:List Bool} {o:List UInt8},T.wf->n.length<=32->o≠[]->(W4 T n o).wf
 | .nil,n,o,w,h,ho=>by unfold W4;exact ⟨h,trivial,trivial,fun e=>absurd e ho,trivial,trivial⟩
 | .node p x l r,n,o,w,h,ho=>by
  have W:=w;obtain ⟨hp,ul,ur,hx,wl,wr⟩:=w;unfold W4;split
  ·rename_i e;subst e;exact ⟨h,ul,ur,fun e=>absurd e ho,wl,wr⟩
  rename_i hne
  split
  ·rename_i e
   have b:=Ym e hne;cases hb:QB n p.length <;> rw [hb] at b
   ·exact ⟨hp,Qiv ul b,ur,fun e=>⟨Qmv,(hx e).2⟩,Qcz wl h ho,wr⟩
   ·exact ⟨hp,ul,Qiv ur b,fun e=>⟨(hx e).1,Qmv⟩,wl,Qcz wr h ho⟩
  rename_i h1
  split
  ·rename_i e
   have b:=Ym e (Ne.symm hne);cases hb:QB p n.length <;> rw [hb] at b
   ·exact ⟨h,b,trivial,fun e=>absurd e ho,W,trivial⟩
   ·exact ⟨h,trivial,b,fun e=>absurd e ho,trivial,W⟩
  ·rename_i h2
   obtain ⟨a,b,c⟩:=Qfm h1 h2;have hl:(Wr p n).length<=32:=Nat.le_trans (QbC p n).length_le h;cases hb:QB n (Wr p n).length <;> rw [hb] at b c <;> rw [c] at a
   ·exact ⟨hl,b,a,fun _=>⟨fun e=>(by cases e),fun e=>(by cases e)⟩,⟨h,trivial,trivial,fun e=>absurd e ho,trivial,trivial⟩,W⟩
   ·exact ⟨hl,a,b,fun _=>⟨fun e=>(by cases e),fun e=>(by cases e)⟩,W,⟨h,trivial,trivial,fun e=>absurd e ho,trivial,trivial⟩⟩
theorem QaO:∀ {T:Tr} {n m:List Bool} {o y:List UInt8},T.wf->o≠[]->((W4 T n o).has m y↔(m=n/\y=o)\/(m≠n/\T.has m y))
 | .nil,n,m,o,y,w,ho=>by
  unfold W4;constructor
  ·rintro (⟨a,b,_⟩ | h | h)
   ·exact .inl ⟨a,b⟩
   ·exact h.elim
   ·exact h.elim
  ·rintro (⟨a,b⟩ | ⟨_,h⟩)
   ·exact .inl ⟨a,b,ho⟩
   ·exact h.elim
 | .node p x l r,n,m,o,y,w,ho=>by
  have W:=w;obtain ⟨hp,ul,ur,hx,wl,wr⟩:=w;have nl:∀ {m y},l.has m y->m≠p:=fun k e=>Xv (Zf wl ul k) e.symm;have nr:∀ {m y},r.has m y->m≠p:=fun k e=>Xv (Zf wr ur k) e.symm;unfold W4;split
  ·rename_i e;subst e
   constructor
   ·rintro (⟨a,b,_⟩ | k | k)
    ·exact .inl ⟨a,b⟩
    ·exact .inr ⟨nl k,.inr (.inl k)⟩
    ·exact .inr ⟨nr k,.inr (.inr k)⟩
   ·rintro (⟨a,b⟩ | ⟨hm,k | k | k⟩)
    ·exact .inl ⟨a,b,ho⟩
    ·exact absurd k.1 hm
    ·exact .inr (.inl k)
    ·exact .inr (.inr k)
  rename_i hne
  split
  ·rename_i e
   have b:=Ym e hne;cases hb:QB n p.length <;> rw [hb] at b
   ·have ih:=QaO (T:=l) (n:=n) (m:=m) (o:=o) (y:=y) wl ho;have nn:∀ {m y},r.has m y->m≠n:=fun k e=>by have:=XV (Zf wr ur k) (by rw [e];exact b);cases this
    show (_\/(W4 l n o).has m y\/_)↔_\/(_/\(_\/_\/_));rw [ih];constructor
    ·rintro (k | (k | k) | k)
     ·exact .inr ⟨by rw [k.1];exact hne,.inl k⟩
     ·exact .inl k
     ·exact .inr ⟨k.1,.inr (.inl k.2)⟩
     ·exact .inr ⟨nn k,.inr (.inr k)⟩
    ·rintro (k | ⟨hm,k | k | k⟩)
     ·exact .inr (.inl (.inl k))
     ·exact .inl k
     ·exact .inr (.inl (.inr ⟨hm,k⟩))
     ·exact .inr (.inr k)
   ·have ih:=QaO (T:=r) (n:=n) (m:=m) (o:=o) (y:=y) wr ho;have nn:∀ {m y},l.has m y->m≠n:=fun k e=>by have:=XV (Zf wl ul k) (by rw [e];exact b);cases this
    show (_\/_\/(W4 r n o).has m y)↔_\/(_/\(_\/_\/_));rw [ih];constructor
    ·rintro (k | k | (k | k))
     ·exact .inr ⟨by rw [k.1];exact hne,.inl k⟩
     ·exact .inr ⟨nn k,.inr (.inl k)⟩
     ·exact .inl k
     ·exact .inr ⟨k.1,.inr (.inr k.2)⟩
    ·rintro (k | ⟨hm,k | k | k⟩)
     ·exact .inr (.inr (.inl k))
     ·exact .inl k
     ·exact .inr (.inl k)
     ·exact .inr (.inr (.inr ⟨hm,k⟩))
  rename_i h1
  have hnp:∀ {m y},(Tr.node p x l r).has m y->p <+: m:=fun k=>Zf W (List.prefix_refl p) k;split
  ·rename_i e
   have hmn:∀ {m y},(Tr.node p x l r).has m y->m≠n:=fun k e'=>h1 (by rw [<- e'];exact hnp k);cases QB p n.length
   ·constructor
    ·rintro (⟨a,b,_⟩ | k | k)
     ·exact .inl ⟨a,b⟩
     ·exact .inr ⟨hmn k,k⟩
     ·exact k.elim
    ·rintro (⟨a,b⟩ | ⟨_,k⟩)
     ·exact .inl ⟨a,b,ho⟩
     ·exact .inr (.inl k)
   ·constructor
    ·rintro (⟨a,b,_⟩ | k | k)
     ·exact .inl ⟨a,b⟩
     ·exact k.elim
     ·exact .inr ⟨hmn k,k⟩
    ·rintro (⟨a,b⟩ | ⟨_,k⟩)
     ·exact .inl ⟨a,b,ho⟩
     ·exact .inr (.inr k)
  ·rename_i h2
   have hmn:∀ {m y},(Tr.node p x l r).has m y->m≠n:=fun k e'=>h1 (by rw [<- e'];exact hnp k);cases QB n (Wr p n).length
   ·constructor
    ·rintro (⟨_,_,k⟩ | (⟨a,b,_⟩ | k | k) | k)
     ·exact absurd rfl k
     ·exact .inl ⟨a,b⟩
     ·exact k.elim
     ·exact k.elim
     ·exact .inr ⟨hmn k,k⟩
    ·rintro (⟨a,b⟩ | ⟨_,k⟩)
     ·exact .inr (.inl (.inl ⟨a,b,ho⟩))
     ·exact .inr (.inr k)
   ·constructor
    ·rintro (⟨_,_,k⟩ | k | (⟨a,b,_⟩ | k | k))
     ·exact absurd rfl k
     ·exact .inr ⟨hmn k,k⟩
     ·exact .inl ⟨a,b⟩
     ·exact k.elim
     ·exact k.elim
    ·rintro (⟨a,b⟩ | ⟨_,k⟩)
     ·exact .inr (.inr (.inl ⟨a,b,ho⟩))
     ·exact .inr (.inl k)
end
section
open Go.RowKit
theorem QbE {l:List UInt8} {c:Nat} (hc:c<=1000000) (hl:l.length<=1000000):Cf Tryz.prog 75 [] [.s l,.i (c:Int)] [] (.s (Lib.repeatL l c)) :=
 Cf.of (by kernel_rfl) fun w Pub φ vs hp hR=>by
  obtain ⟨u,v,rfl,h1,h2⟩:=ra2 hR;have e1:=Ya h1;have e2:=Ya h2;subst e1 e2
  have hlen:l.length * c<=140737488355328:=by
   have:=Nat.mul_le_mul hl hc;omega
  exact Tryz.strings_Repeat ⟨⟨l⟩⟩ c w (by omega) hlen
theorem Qwr {n:Int} (hn:QiG n):Cf Tryz.prog 31 [] [.i n] [] (.s (QgJ n)):=by
 have h1:=QdW n (m:=8) (by decide);have h2:=Qb9 n (m:=8) (by decide);have e:=Que n;refine Qr {} Tryz.func31 Tryz.ntmps31 ?_;refine ⟨_,_,_,_,(@W8 ?_ ?_ ?_ ?_ ?_),?_⟩
 rotate_left 5
 repeat refine o0 ?_
 refine ⟨_,_,_,_,(@W8 ?_ ?_ ?_ ?_ ?_),?_⟩
 rotate_left 5
 repeat (refine Ob.mk ?_ ?_;focus (first | (exact Eq.refl _) | omega | (simp only [SrcE.len,QxF,QxC,List.length_cons,List.length_nil];omega) | (simp [SrcE.len];omega)))
 refine clX (QbE (l:=[49]++(dig8.drop (pk n 8).toNat).take ((pk n 8+1).toNat - (pk n 8).toNat)) (c:=32) (by decide) (by simp only [QxC,Qxt,Qxs,List.length_cons,List.length_nil,dig8];omega)) ?_
 repeat (refine Ob.mk ?_ ?_;focus (first | (exact Eq.refl _) | assumption))
 trivial
 all_goals (first | exact hn.1 | exact hn.2 | omega)
end
section
open Go.ChangeShapes Go.WideShapes Go.ChangeAt Go.RowKit
theorem ra_lz {W:World} {x:Addr} {n c sz:Nat} {f:Nat->Nat->EV} (hn:n<=c) (hc:c<=maxLen) (hsz:0 < sz)
  (h:∀ i,i < n -> ∀ j,j < sz->∃ u,W.cell? (x.add (i * sz+j))=some u/\u.oneCell'=true/\RP W (QbF W) (f i j).pv u):RA W (QbF W) noG (EV.lz n sz f).av (.slice (some x) n c):=by
 unfold EV.av EV.pv RA RP;refine ⟨some x,c,rfl,hn,hc,(fun h=>by cases h),?_⟩;by_cases h0:n=0
 ·exact .inl h0
 ·right;obtain ⟨b,off,spot⟩:=x;obtain ⟨u0,k0,_,_⟩:=h 0 (by omega) 0 hsz;have hspot:spot=none:=by simpa [Addr.add] using World.cell?_spot k0
  subst hspot;refine ⟨b,off,rfl,Qbb fun k q hq=>?_⟩;have hk:k < n * sz:=by have:=(List.getElem?_eq_some_iff.1 hq).1;rw [Wp] at this;exact this
  have hb:k % sz < sz:=Nat.mod_lt _ hsz;have ha:k / sz < n:=(Nat.div_lt_iff_lt_mul hsz).2 hk;have e:k / sz * sz+k % sz=k:=by rw [Nat.mul_comm];exact Nat.div_add_mod k sz
  have g:=Ys n sz f ha hb;rw [e,hq] at g;cases g;obtain ⟨u,k1,k2,k3⟩:=h _ ha _ hb;rw [e,Go.WideShapes.add_plain] at k1;exact ⟨u,k1,World.block_lt_of_cell? W _ k1,k2,k3⟩
theorem Qwt {W:World} {sz:Nat} {f:Nat->Nat->EV}:RA W (QbF W) noG (EV.lz 0 sz f).av (.slice none 0 0):=by
 unfold EV.av EV.pv RA RP;exact ⟨none,0,rfl,Qxy _,by unfold maxLen;omega,fun _=>rfl,.inl rfl⟩
abbrev QdX (l:List (List UInt8)):EV:=.lz l.length 1 (fun i j=>.s (l.getD i []))
structure RawS where
 k:Int
 a:Int
 b:Int
 s:List UInt8
 deriving Inhabited
def QiH (r:RawS):Nat->EV
 | 0=>.i r.k
 | 1=>.i r.a
 | 2=>.i r.b
 | _=>.s r.s
def RawS.inn (r:RawS):Prop:=RawIn r.k r.a r.b r.s
abbrev JJ (l:List RawS):EV:=.lz l.length 4 (fun i j=>QiH (l.getD i default) j)
theorem QkP {H:Type} {enc:TypeId×Value->H} {W:World} {r:Reach} {b0 base:Nat} {v:Value} {d:DataW H} {p:List MemPlace}
  (hv:Value.okWide Tryz.prog W r b0 22 v) (h:DataW.Trod enc Tryz.prog W base (fun _=>true) true 22 v d p) :
  ∃ l:List RawS,(l.length<=maxLen /\ ∀ x∈l,x.inn)/\RA W (QbF W) noG (JJ l).av v:=by
 obtain ⟨a,len,cap,rfl⟩:=okWide_slice Tryz.underlying22 hv;obtain ⟨fuel,hf⟩:=h;rcases DataW.trod_slice Tryz.underlying22 hf with ⟨hcs,_⟩ | ⟨x,l,c,elems,rest,n,_,hcs,_,_,hl,hm,hlen,hel,_⟩
 ·simp [Value.cells] at hcs;obtain ⟨rfl,rfl,rfl⟩:=hcs;exact ⟨[],⟨Nat.zero_le _,fun s hs=>by cases hs⟩,Qwt⟩
 ·simp [Value.cells] at hcs;obtain ⟨rfl,rfl,rfl⟩:=hcs
  have each:∀ i,∃ r:RawS,i < len->r.inn /\ ∀ j,j < 4->∃ u,W.cell? (x.add (i * 4+j))=some u/\u.oneCell'=true/\RP W (QbF W) (QiH r j).pv u:=fun i=>by
   by_cases hi:i < len
   ·have he:=hel i hi;rw [List.getElem?_eq_getElem (by omega)] at he;obtain ⟨cs,h1,h2⟩:=Option.bind_eq_some_iff.1 he;have hsz:(Tryz.prog).cellsOf 44=4:=by kernel_rfl
    rw [hsz] at h1;obtain ⟨_,hcl,hcell⟩:=World.cells?_some h1
    obtain ⟨c0,c1,c2,c3,rfl⟩:∃ c0 c1 c2 c3,cs=[c0,c1,c2,c3]:=by
     match cs,hcl with
     | [c0,c1,c2,c3],_=>exact ⟨_,_,_,_,rfl⟩
    obtain ⟨y0,y1,y2,y3,m,_,_,e0,e1,e2,e3⟩:=Joins.trod_struct4 Tryz.underlying44 h2;have e0:DataW.trod enc Tryz.prog W base (fun _=>true) true m 3 [c0]=some y0:=e0;have e1:DataW.trod enc Tryz.prog W base (fun _=>true) true m 3 [c1]=some y1:=e1;have e2:DataW.trod enc Tryz.prog W base (fun _=>true) true m 3 [c2]=some y2:=e2;have e3:DataW.trod enc Tryz.prog W base (fun _=>true) true m 9 [c3]=some y3:=e3;obtain ⟨n0,q0,_,w0⟩:=DataW.trod_int Tryz.underlying3 e0;obtain ⟨n1,q1,_,w1⟩:=DataW.trod_int Tryz.underlying3 e1;obtain ⟨n2,q2,_,w2⟩:=DataW.trod_int Tryz.underlying3 e2;obtain ⟨s,q3,_,w3⟩:=DataW.trod_string Tryz.underlying9 e3;simp only [List.cons.injEq,and_true] at q0 q1 q2 q3;subst q0 q1 q2 q3
    have hc4:∀ j,j < 4->W.cell? (x.add (i * 4+j))=[Value.int .i64 n0,.int .i64 n1,.int .i64 n2,.string s][j]?:=fun j hj=>by
     have k:=hcell j hj;rw [Addr.add_add] at k;exact k
    refine ⟨⟨n0,n1,n2,s.data.toList⟩,fun _=>⟨⟨QkO w0,QkO w1,QkO w2,by show s.data.toList.length<=maxLen;rw [Qxx];exact w3⟩,fun j hj=>?_⟩⟩;have k:=hc4 j hj
    match j,hj with
    | 0,_=>exact ⟨_,k,rfl,by unfold QiH EV.pv RP;rfl⟩
    | 1,_=>exact ⟨_,k,rfl,by unfold QiH EV.pv RP;rfl⟩
    | 2,_=>exact ⟨_,k,rfl,by unfold QiH EV.pv RP;rfl⟩
    | 3,_=>exact ⟨_,k,rfl,by unfold QiH EV.pv RP;rfl⟩
   ·exact ⟨default,fun h=>absurd h hi⟩
  obtain ⟨f,hff⟩:=Classical.axiomOfChoice each;have e:len=((QxR len).map f).length:=by simp
  refine ⟨(QxR len).map f,⟨by rw [<- e];omega,fun r hr=>?_⟩,?_⟩
  ·obtain ⟨i,hi,rfl⟩:=List.mem_map.1 hr;exact (hff i (List.mem_range.1 hi)).1
  ·have k:=ra_lz (W:=W) (x:=x) (n:=len) (c:=cap) (sz:=4) (f:=fun i j=>QiH (((QxR len).map f).getD i default) j) hl hm (by decide) (fun i hi j hj=>by
    have e2:((QxR len).map f).getD i default=f i:=by simp [QxN,List.getElem?_map,List.getElem?_range hi]
    show ∃ u,W.cell? (x.add (i * 4+j))=some u/\u.oneCell'=true/\RP W (QbF W) (QiH (((QxR len).map f).getD i default) j).pv u;rw [e2]
    exact (hff i hi).2 j hj)
   unfold JJ;rw [<- e];exact k
end
section
open Go.RowKit
set_option maxHeartbeats 1000000 in
theorem QwS:InsW Tryz.prog 159 36 2:=by
 intro w s n k vb vc cs vs vcur hvb hvz hvc hvm hvs h1v hS hk hb;obtain ⟨i0,z0,ht,hi0,hz0,hzs,hby,hzc,hzl⟩:=XG ((TT.find_ok JZ (T:=31) rfl).sl _ _ _ _ rfl).2.2.1;have mixed:Tryz.prog.follows .mixedOrders=true:=by kernel_rfl
 have hsz:Zh Tryz.prog 36=some 2:=(TT.find_ok JZ (T:=36) rfl).sz;have hvl:vs.length=2:=by rw [hvs,Qxt,Qxx,hvz];omega
 have hvc':∀ j v,vs[j]? = some v->w.cell? ((⟨vb,0,none⟩:Addr).add j)=some v:=fun j v hj=>by
  rw [Addr.add_mid,QxF,cell_of_row w vb j vcur _ _ hvb];rw [hvs,QxG] at hj;split at hj
  ·simpa using hj
  ·cases hj
 have hvlt:vb < w.heap.size:=(QxJ.1 hvb).1;have hvlc:vs.length=1 * i0.size:=by rw [hzs,hvl]
 rcases hS with ⟨rfl,rfl,rfl⟩ | ⟨b,c,cur,rfl,hbk,hcz,hnc,hcm,hcs,hne,h1c⟩
 ·obtain rfl:k=0:=by omega
  have hrun0:∀ ty,(Builtin.append_ #[31,31] ty #[.slice none 0 0,.slice (some ⟨vb,0,none⟩) 1 vc]).run Tryz.prog w=_:=fun ty =>
   run_append_nil (P:=Tryz.prog) w 31 ty 36 i0 z0 ht hi0 hz0 ⟨vb,0,none⟩ 1 vc vs hvlc hvc' (by decide) (by omega) (by rw [hby];decide)
  obtain ⟨G,hG⟩:∃ G,G=grownCap w 1 0 36:=⟨_,rfl⟩;obtain ⟨row,hrow⟩:∃ row,row=vs.toArray++Builtin.zeroCells z0.cells (G - 1):=⟨_,rfl⟩;have hrun:∀ ty,(Builtin.append_ #[31,31] ty #[.slice none 0 0,.slice (some ⟨vb,0,none⟩) 1 vc]).run Tryz.prog w=.ok (.slice (some ⟨w.heap.size,0,none⟩) 1 G) (w.drew.alloc (.cells row 36)):=by rw [hrow,hG];exact hrun0
  have hG1:1<=G:=by rw [hG];exact grownCap_ge w _ _ _
  have hG2:G<=maxLen:=by rw [hG];exact grownCap_le_maxLen w _ _ _ (by unfold maxLen;omega)
  have hr1:row.size=G * 2:=by rw [hrow,QxD,size_zeroCells,hzc,QxK,hvl];omega
  have hr2:row.toList.take ((0+1) * 2)=([]:List Value).take (0 * 2)++vs++([]:List Value).drop (0 * 2):=by
   rw [hrow,Qxz,Qxw (by simp [hvl]),Qxv (by simp [hvl])];simp
  clear hrow hG hrun0 hvs hvc' hzl
  go_enter Tryz.func159,Tryz.ntmps159
  go_wp2_with (at_builtin;refine Lib.wpList_append_run _ rfl _ _ _ _ rfl _ _ rfl rfl _ _ (hrun _) ?_)
  go_ret
  exact QcK hr1 hr2 hG1 hG2
 ·have hlt:b < w.heap.size:=(QxJ.1 hbk).1;have hcl:cs.length=n * 2:=by rw [hcs,Qxt,Qxx,hcz];exact QxA (QxU _ hnc)
  have hcl':cur.toList.length=c * 2:=by rw [Qxx];exact hcz
  have hcc:∀ j v,cs[j]? = some v->w.cell? ⟨b,j,none⟩=some v:=fun j v hj=>by
   rw [cell_of_row w b j cur _ _ hbk];rw [hcs,QxG] at hj;split at hj
   ·simpa using hj
   ·cases hj
  have hsrc:Go.Src Tryz.prog i0.size 31 (.slice (some ⟨vb,0,none⟩) 1 vc) 1 vs w:=Go.Src.ofSlice w ht ⟨vb,0,none⟩ 1 vc vs hvlc hvc' h1v;by_cases hkn:k=n
  ·subst hkn
   have hw:cs.take (k * 2)++vs++cs.drop (k * 2)=cs++vs:=by
    rw [Qxv (by omega),QxT (by omega),List.append_nil]
   by_cases hroom:k+1<=c
   ·have hrun:∀ ty,(Builtin.append_ #[31,31] ty #[.slice (some ⟨b,0,none⟩) k c,.slice (some ⟨vb,0,none⟩) 1 vc]).run Tryz.prog w=.ok (.slice (some ⟨b,0,none⟩) (k+1) c) (w.setCells b (k * 2) vs):=fun ty=>by
     have:=run_append_room_src (P:=Tryz.prog) w 31 31 ty 36 i0 ht hi0 b 0 k c _ 1 vs hsrc hroom (fun j hj=>by rw [cell_of_row w b _ cur _ _ hbk,Qxu (by rw [hcz,hzs];omega)];rfl) (fun j hj=>by unfold World.frozen?;simp only [hbk];simp)
     rwa [QxF,hzs] at this
    have hlist:(Qs (Qs cur.toList 0 []) (k * 2) vs).take ((k+1) * 2)=cs.take (k * 2)++vs++cs.drop (k * 2):=by
     rw [hw,Qdt,show (k+1) * 2=k * 2+vs.length from by rw [hvl];omega,Yo vs (k * 2) cur.toList (by rw [hcl',hvl];omega),hcs]
    clear hsrc hvs hvc' hzl hcc hcs
    go_enter Tryz.func159,Tryz.ntmps159
    go_wp2_with (at_builtin;refine Lib.wpList_append_run _ rfl _ _ _ _ rfl _ _ rfl rfl _ _ (hrun _) ?_)
    go_ret
    exact Jv (w0:=w) (w1:=w) (o1:=0) (xs:=[]) hbk ⟨rfl,rfl,rfl⟩ (Qxy _) (fun _ _ _=>rfl) rfl (.inl rfl) hcz (by first | exact hlist | (simp only [QxP] at hlist ⊢;exact hlist)) hroom hcm (.inr ⟨c,rfl⟩)
   ·have hold:(Builtin.firstCells i0.size k (.slice (some ⟨b,0,none⟩) k c)).run Tryz.prog w.drew=.ok cs.toArray w.drew:=run_firstCells_some w.drew i0.size k ⟨b,0,none⟩ k c cs (by rw [hzs];exact hcl) (fun j v hj=>by rw [Addr.add_mid,QxF];exact hcc j v hj)
    have hrun0:∀ ty,(Builtin.append_ #[31,31] ty #[.slice (some ⟨b,0,none⟩) k c,.slice (some ⟨vb,0,none⟩) 1 vc]).run Tryz.prog w=_:=fun ty =>
     run_append_grow_src (P:=Tryz.prog) w 31 31 ty 36 i0 z0 ht hi0 hz0 (some ⟨b,0,none⟩) k c cs hold _ 1 vs hsrc (by omega) (by omega) (growslice_fits (by omega) (by rw [hby];omega))
    obtain ⟨G,hG⟩:∃ G,G=grownCap w (k+1) c 36:=⟨_,rfl⟩;obtain ⟨row,hrow⟩:∃ row,row=(cs++vs).toArray++Builtin.zeroCells z0.cells (G - (k+1)):=⟨_,rfl⟩;have hrun:∀ ty,(Builtin.append_ #[31,31] ty #[.slice (some ⟨b,0,none⟩) k c,.slice (some ⟨vb,0,none⟩) 1 vc]).run Tryz.prog w=.ok (.slice (some ⟨w.heap.size,0,none⟩) (k+1) G) (w.drew.alloc (.cells row 36)):=by rw [hrow,hG];exact hrun0
    have hG1:k+1<=G:=by rw [hG];exact grownCap_ge w _ _ _
    have hG2:G<=maxLen:=by rw [hG];exact grownCap_le_maxLen w _ _ _ (by unfold maxLen;omega)
    have hr1:row.size=G * 2:=by rw [hrow,QxD,size_zeroCells,hzc,QxK,QxC,hvl,hcl];omega
    have hr2:row.toList.take ((k+1) * 2)=cs.take (k * 2)++vs++cs.drop (k * 2):=by
     rw [hw,hrow,Qxz,Qxw (by simp only [QxC,hvl,hcl];omega),Qxv (by simp only [QxC,hvl,hcl];omega)]
    clear hrow hG hrun0 hsrc hvs hvc' hzl hcc hcs hold
    go_enter Tryz.func159,Tryz.ntmps159
    go_wp2_with (at_builtin;refine Lib.wpList_append_run _ rfl _ _ _ _ rfl _ _ rfl rfl _ _ (hrun _) ?_)
    go_ret
    exact QcK hr1 hr2 hG1 hG2
  ·have hk':k < n:=by omega
   have hz2:¬ ((k:Int)=(n:Int)):=by omega
   have hdl:(cs.drop (k * 2)).length=(n - k) * 2:=by rw [Qxs,hcl];omega
   have hw1:IntKind.i64.wrap ((k:Int)+1)=(k:Int)+1:=by rw [IntKind.wrap_i64];omega
   have hc63:c<=9223372036854775807:=hcm;have hb1:(0:Int)<=(k:Int)+1:=by omega
   have htn:((k:Int)+1).toNat=k+1:=by omega
   have hb3:(k:Int)<=(n:Int)+1:=by omega
   have hb4:¬ (c=k):=by omega
   by_cases hroom:n+1<=c
   ·have hb2:¬ (c=k+1):=by omega
    have hsp:∀ j,j < (n+1) * 2->(w.cell? ⟨b,j,none⟩).isSome=true:=fun j hj=>by
     rw [cell_of_row w b j cur _ _ hbk,Qxu (by rw [hcz];omega)];rfl
    have hfz:∀ j,w.frozen? ⟨b,j,none⟩=false:=fun j=>by unfold World.frozen?;simp only [hbk];simp
    have hov:∀ lb cb,(callFunc 190 #[.slice (some ⟨vb,0,none⟩) 1 vc,.slice (some ⟨b,(k+1) * 2,none⟩) lb cb]).run Tryz.prog w=.ok (.value (.bool false)) w:=fun lb cb=>by
     rw [run_callFunc_extern Tryz.func190 (by kernel_rfl) (by kernel_rfl) (by kernel_rfl) (e:=Extern.SlicesOverlaps.overlaps #[31,31] #[4]) (by kernel_rfl),
      Lib.run_overlaps_apart w 31 4 36 ht 2 (fun w=>Qp hsz w) ⟨vb,0,none⟩ ⟨b,(k+1) * 2,none⟩ 1 vc lb cb (Ne.symm hne) 36 36 vcur.size cur.size (by unfold World.shape?;simp only [hvb]) (by unfold World.shape?;simp only [hbk]) (by rw [hcz];omega) (by unfold World.frozen?;simp only [hvb];simp) (by unfold World.frozen?;simp only [hvb];simp)]
     rfl
    have hm1:QxL (n+1 - k) (n - k)=n - k:=Nat.min_eq_right (by omega);have hm2:QxL 1 (n+1 - k)=1:=QxA (by omega)
    have hcp1:∀ ty dc sc,(Builtin.copy_ #[31,31] ty #[.slice (some ⟨b,(k+1) * 2,none⟩) (n - k) dc,.slice (some ⟨b,k * 2,none⟩) (n+1 - k) sc]).run Tryz.prog w.drew=.ok (goInt (n - k:Nat)) (w.drew.setCells b ((k+1) * 2) (cs.drop (k * 2))):=fun ty dc sc=>by
     have:=Q0 (P:=Tryz.prog) w.drew 31 31 ty 36 2 b ((k+1) * 2) (n - k) dc ⟨b,k * 2,none⟩ (n+1 - k) sc (cs.drop (k * 2)) ht hsz (by rw [Qxs,hcl,hm1];omega)
      (fun j v hj=>by rw [Addr.add_mid];exact hcc _ v (by rwa [QxO] at hj))
      (fun j hj=>hsp _ (by rw [Qxs,hcl] at hj;omega)) (fun j hj=>hfz _) (fun v hv=>h1c v (QxM hv))
     rwa [hm1] at this
    obtain ⟨W1,hW1⟩:∃ W1,W1=w.drew.setCells b ((k+1) * 2) (cs.drop (k * 2)):=⟨_,rfl⟩
    have hsp1:∀ j,j < (n+1) * 2->(W1.cell? ⟨b,j,none⟩).isSome=true:=fun j hj=>by
     obtain ⟨cur',c1,c2,_⟩:=QC b (cs.drop (k * 2)) ((k+1) * 2) w.drew cur _ _ hbk;rw [hW1,cell_of_row _ b j cur' _ _ c1,Qxu (by rw [c2,hcz];omega)];rfl
    have hcp2:∀ (W:World),(∀ x,W.cell? x=W1.cell? x)->(∀ x,W.frozen? x=W1.frozen? x) -> ∀ ty dc,(Builtin.copy_ #[31,31] ty #[.slice (some ⟨b,k * 2,none⟩) (n+1 - k) dc,.slice (some ⟨vb,0,none⟩) 1 vc]).run Tryz.prog W=.ok (goInt 1) (W.setCells b (k * 2) vs):=fun W hWc hWf ty dc=>by
     have:=Q0 (P:=Tryz.prog) W 31 31 ty 36 2 b (k * 2) (n+1 - k) dc ⟨vb,0,none⟩ 1 vc vs ht hsz (by rw [hvl,hm2])
      (fun j v hj=>by
       rw [Addr.add_mid,hWc,hW1,World.cell?_setCells_out b _ _ _ _ (fun h _=>absurd h (Ne.symm hne))];have:=hvc' j v hj
       rwa [Addr.add_mid] at this)
      (fun j hj=>by rw [hWc];exact hsp1 _ (by omega)) (fun j hj=>by rw [hWf,hW1,World.frozen?_setCells];exact hfz _) h1v
     rwa [hm2] at this
    have hlist:(Qs (Qs cur.toList ((k+1) * 2) (cs.drop (k * 2))) (k * 2) vs).take ((n+1) * 2)=cs.take (k * 2)++vs++cs.drop (k * 2):=by
     have hdl2:(cs.drop (k * 2)).length=n * 2 - (k * 2):=by rw [Qxs,hcl]
     have:=Qfy cur.toList vs (cs.drop (k * 2)) (k * 2) (by rw [hcl',hvl,hdl2];omega);have e1:k * 2=k * 2:=by omega
     have e2:(k+1) * 2=k * 2+2:=by omega
     have e3:cur.toList.take (k * 2)=cs.take (k * 2):=by rw [hcs,List.take_take,QxA (by omega)]
     rw [hvl,hdl2,show k * 2+2+(n * 2 - (k * 2))=(n+1) * 2 from by omega,e3] at this;rw [e1,e2];exact this
    rw [<- hW1] at hcp1;have hWo:=Lib.hid hW1;clear hsrc hvs hvc' hzl hcc hcs hW1 hsp hfz hsp1
    go_enter Tryz.func159,Tryz.ntmps159
    go_wp2_with (simp only [hov])
    go_region_law_o (refine step_copy_runI rfl _ _ 31 31 rfl _ _ (by simp [Act.eval,Act.put]) (by simp [Act.eval,Act.put]) (hcp1 _ _ _) ?_)
    go_wp2_with (at_builtin;refine wpList_copy_runI _ rfl _ _ 31 31 rfl _ _ rfl rfl (hcp2 _ (fun _=>rfl) (fun _=>rfl) _ _) ?_)
    go_ret
    exact Jv (w0:=w.drew) (w1:=W1) hbk ⟨rfl,rfl,rfl⟩ (Qxy _) (fun _ _ _=>rfl) hWo.out (by first | exact .inl rfl | exact .inr rfl) hcz (by first | exact hlist | (simp only [QxP,QxE] at hlist ⊢;exact hlist)) hroom hcm (.inr ⟨c,rfl⟩)
   ·have hkk:(n:Int)+1 - (k:Int)=((n+1 - k:Nat):Int):=by omega
    have hik:k+(n+1 - k)=n+1:=by omega
    have hz3:(c:Int) < (n:Int)+1:=by omega
    have hold:(Builtin.firstCells i0.size k (.slice (some ⟨b,0,none⟩) k c)).run Tryz.prog w.drew=.ok (cs.take (k * 2)).toArray w.drew:=run_firstCells_some w.drew i0.size k ⟨b,0,none⟩ k c (cs.take (k * 2)) (by rw [hzs,Qxt,hcl];omega) (fun j v hj=>by
     rw [Addr.add_mid,QxF];rw [QxG] at hj;split at hj
     ·exact hcc j v hj
     ·cases hj)
    have htI:Tryz.prog.underlying 3=some (.int .i64):=Tryz.underlying3;obtain ⟨G,hG⟩:∃ G,G=grownCap w (n+1) c 36:=⟨_,rfl⟩;obtain ⟨row,hrow⟩:∃ row:Array Value,row=(cs.take (k * 2)).toArray++Builtin.zeroCells z0.cells (n+1 - k)++Builtin.zeroCells z0.cells (G - (n+1)):=⟨_,rfl⟩
    have hrz:∀ ty,(Builtin.append_ #[31,3] ty #[.slice (some ⟨b,0,none⟩) k c,.int .i64 ((n:Int)+1 - (k:Int))]).run Tryz.prog w=.ok (.slice (some ⟨w.heap.size,0,none⟩) (n+1) G) (w.drew.alloc (.cells row 36)):=fun ty=>by
     have h:=Lib.run_append_grow_zeros (P:=Tryz.prog) w 31 3 ty 36 i0 z0 .i64 .i64 ht htI hi0 hz0 (some ⟨b,0,none⟩) k c _ hold (n+1 - k) (by omega) (by omega) (by omega) (by omega) (by rw [hby];omega) (by rw [hby,hik];exact growslice_fits (by omega) (by omega));rw [hik,<- hG,<- hrow] at h;rw [hkk];exact h
    have hGn:n+1<=G:=by rw [hG];exact grownCap_ge w _ _ _
    have hG2:G<=maxLen:=by rw [hG];exact grownCap_le_maxLen w _ _ _ (by unfold maxLen;omega)
    have hG63:G<=9223372036854775807:=hG2;have hr1:row.size=G * 2:=by rw [hrow,QxD,QxD,size_zeroCells,size_zeroCells,hzc,QxK,Qxt,hcl];omega
    have hrt:row.toList.take (k * 2)=cs.take (k * 2):=by
     rw [hrow,Qxz,Qxz,QxE,Qxw (by rw [Qxt,hcl];omega)];exact Qxv (by rw [Qxt,hcl];omega)
    obtain ⟨W1,hW1⟩:∃ W1,W1=w.drew.alloc (.cells row 36):=⟨_,rfl⟩;rw [<- hW1] at hrz
    have hN:∀ j,j < (n+1) * 2->(W1.cell? ⟨w.heap.size,j,none⟩).isSome=true:=fun j hj=>by
     have hjr:j < row.size:=by rw [hr1];omega
     rw [hW1,World.cell?_alloc_at (w:=w.drew) row _ w.heap.size j rfl,Qxu hjr];rfl
    have hNf:∀ j,W1.frozen? ⟨w.heap.size,j,none⟩=false:=fun j=>by rw [hW1];exact World.frozen?_alloc_at (w:=w.drew) row _ w.heap.size j rfl
    have hOb:∀ j v,w.cell? ⟨b,j,none⟩=some v->W1.cell? ⟨b,j,none⟩=some v:=fun j v h=>by rw [hW1,World.cell?_alloc_past (w:=w.drew) _ b j hlt];exact h
    have hOv:∀ j v,w.cell? ⟨vb,j,none⟩=some v->W1.cell? ⟨vb,j,none⟩=some v:=fun j v h=>by rw [hW1,World.cell?_alloc_past (w:=w.drew) _ vb j hvlt];exact h
    have hm1:QxL (n - k) (n+1 - (k+1))=n - k:=QxA (by omega);have hm2:QxL 1 (n+1 - k)=1:=QxA (by omega);have hbN:b≠w.heap.size:=by omega
    have hcpA:∀ (W:World),(∀ x,W.cell? x=W1.cell? x)->(∀ x,W.frozen? x=W1.frozen? x) -> ∀ ty dc,(Builtin.copy_ #[31,31] ty #[.slice (some ⟨w.heap.size,k * 2,none⟩) (n+1 - k) dc,.slice (some ⟨vb,0,none⟩) 1 vc]).run Tryz.prog W=.ok (goInt 1) (W.setCells w.heap.size (k * 2) vs):=fun W hWc hWf ty dc=>by
     have:=Q0 (P:=Tryz.prog) W 31 31 ty 36 2 w.heap.size (k * 2) (n+1 - k) dc ⟨vb,0,none⟩ 1 vc vs ht hsz (by rw [hvl,hm2])
      (fun j v hj=>by rw [Addr.add_mid,hWc];exact hOv _ v (by have:=hvc' j v hj;rwa [Addr.add_mid] at this))
      (fun j hj=>by rw [hWc];exact hN _ (by omega)) (fun j hj=>by rw [hWf];exact hNf _) h1v
     rwa [hm2] at this
    have hcpB:∀ (W:World),(∀ x,W.cell? x=(W1.setCells w.heap.size (k * 2) vs).cell? x)->(∀ x,W.frozen? x=(W1.setCells w.heap.size (k * 2) vs).frozen? x) -> ∀ ty dc sc,(Builtin.copy_ #[31,31] ty #[.slice (some ⟨w.heap.size,(k+1) * 2,none⟩) (n - k) dc,.slice (some ⟨b,k * 2,none⟩) (n - k) sc]).run Tryz.prog W=.ok (goInt (n - k:Nat)) (W.setCells w.heap.size ((k+1) * 2) (cs.drop (k * 2))):=fun W hWc hWf ty dc sc=>by
     have:=Q0 (P:=Tryz.prog) W 31 31 ty 36 2 w.heap.size ((k+1) * 2) (n - k) dc ⟨b,k * 2,none⟩ (n - k) sc (cs.drop (k * 2)) ht hsz (by rw [Qxs,hcl,show QxL (n - k) (n - k)=n - k from QxS _];omega)
      (fun j v hj=>by
       rw [Addr.add_mid,hWc,World.cell?_setCells_out _ _ _ _ _ (fun h _=>absurd h hbN)]
       exact hOb _ v (hcc _ v (by rwa [QxO] at hj)))
      (fun j hj=>by rw [hWc];exact isSome_setCells _ _ _ _ (fun t ht=>hN _ (by rw [hvl] at ht;omega)) _ (hN _ (by rw [Qxs,hcl] at hj;omega)))
      (fun j hj=>by rw [hWf,World.frozen?_setCells];exact hNf _) (fun v hv=>h1c v (QxM hv))
     rwa [show QxL (n - k) (n - k)=n - k from QxS _] at this
    have hlist:(Qs (Qs row.toList (k * 2) vs) ((k+1) * 2) (cs.drop (k * 2))).take ((n+1) * 2)=cs.take (k * 2)++vs++cs.drop (k * 2):=by
     have hdl2:(cs.drop (k * 2)).length=n * 2 - (k * 2):=by rw [Qxs,hcl]
     have hrl:row.toList.length=G * 2:=by rw [Qxx];exact hr1
     have:=Qi9 row.toList vs (cs.drop (k * 2)) (k * 2) (by rw [hrl,hvl,hdl2];omega);have e1:k * 2=k * 2:=by omega
     have e2:(k+1) * 2=k * 2+2:=by omega
     rw [hvl,hdl2,show k * 2+2+(n * 2 - (k * 2))=(n+1) * 2 from by omega,hrt] at this;rw [e1,e2];exact this
    have hGi:¬ (G=k):=by omega
    have hGim:¬ (G=k+1):=by omega
    have hb5:(k:Int)<=(n:Int):=by omega
    have hn1:n+1 - (k+1)=n - k:=by omega
    clear hsrc hvs hvc' hzl hcc hcs hrow hG hold hrt hN hNf hOb hOv hkk hik;subst hW1;have hE1:∀ x,((w.alloc (.cells row 36)).drew).cell? x=(w.drew.alloc (.cells row 36)).cell? x:=fun x=>rfl;have hE2:∀ x,((w.alloc (.cells row 36)).drew).frozen? x=(w.drew.alloc (.cells row 36)).frozen? x:=fun x=>rfl;have hF1:∀ x,(((w.alloc (.cells row 36)).drew.setCells w.heap.size (k * 2) vs).drew).cell? x=((w.drew.alloc (.cells row 36)).setCells w.heap.size (k * 2) vs).cell? x:=fun x=>rfl;have hF2:∀ x,(((w.alloc (.cells row 36)).drew.setCells w.heap.size (k * 2) vs).drew).frozen? x=((w.drew.alloc (.cells row 36)).setCells w.heap.size (k * 2) vs).frozen? x:=fun x=>rfl
    go_enter Tryz.func159,Tryz.ntmps159
    go_wp2_with (first
     | (at_builtin;refine Lib.wpList_append_run _ rfl _ _ _ _ rfl _ _ rfl rfl _ _ (hrz _) ?_)
     | (at_builtin;refine wpList_copy_runI _ rfl _ _ 31 31 rfl _ _ rfl rfl (hcpA _ hE1 hE2 _ _) ?_))
    go_region_law_o (refine step_copy_runI rfl _ _ 31 31 rfl (.slice (some ⟨w.heap.size,(k+1) * 2,none⟩) (n - k) (G - (k+1))) (.slice (some ⟨b,k * 2,none⟩) (n - k) (c - k)) (by simp [Act.eval,Act.put]) (by simp [Act.eval,Act.put]) (hcpB _ hF1 hF2 3 (G - (k+1)) (c - k)) ?_)
    go_wp2
    go_ret
    exact Jv (w0:=w.drew.alloc (.cells row 36)) (w1:=(w.drew.alloc (.cells row 36)).setCells w.heap.size (k * 2) vs) (heap_alloc_new w.drew _) ⟨rfl,rfl,rfl⟩ (by simp) (fun x _ hx=>Below.heap_alloc _ _ _ hx) rfl (by first | exact .inr rfl | exact .inl rfl) hr1 (by first | exact hlist | (simp only [QxP,QxE] at hlist ⊢;exact hlist)) hGn hG2 (.inl (Qxy _))
end
section
open Go.RowKit
set_option maxHeartbeats 1000000 in
theorem QwV:InsW Tryz.prog 156 33 5:=by
 intro w s n k vb vc cs vs vcur hvb hvz hvc hvm hvs h1v hS hk hb;obtain ⟨i0,z0,ht,hi0,hz0,hzs,hby,hzc,hzl⟩:=XG ((TT.find_ok JZ (T:=23) rfl).sl _ _ _ _ rfl).2.2.1;have mixed:Tryz.prog.follows .mixedOrders=true:=by kernel_rfl
 have hsz:Zh Tryz.prog 33=some 5:=(TT.find_ok JZ (T:=33) rfl).sz;have hvl:vs.length=5:=by rw [hvs,Qxt,Qxx,hvz];omega
 have hvc':∀ j v,vs[j]? = some v->w.cell? ((⟨vb,0,none⟩:Addr).add j)=some v:=fun j v hj=>by
  rw [Addr.add_mid,QxF,cell_of_row w vb j vcur _ _ hvb];rw [hvs,QxG] at hj;split at hj
  ·simpa using hj
  ·cases hj
 have hvlt:vb < w.heap.size:=(QxJ.1 hvb).1;have hvlc:vs.length=1 * i0.size:=by rw [hzs,hvl]
 rcases hS with ⟨rfl,rfl,rfl⟩ | ⟨b,c,cur,rfl,hbk,hcz,hnc,hcm,hcs,hne,h1c⟩
 ·obtain rfl:k=0:=by omega
  have hrun0:∀ ty,(Builtin.append_ #[23,23] ty #[.slice none 0 0,.slice (some ⟨vb,0,none⟩) 1 vc]).run Tryz.prog w=_:=fun ty =>
   run_append_nil (P:=Tryz.prog) w 23 ty 33 i0 z0 ht hi0 hz0 ⟨vb,0,none⟩ 1 vc vs hvlc hvc' (by decide) (by omega) (by rw [hby];decide)
  obtain ⟨G,hG⟩:∃ G,G=grownCap w 1 0 33:=⟨_,rfl⟩;obtain ⟨row,hrow⟩:∃ row,row=vs.toArray++Builtin.zeroCells z0.cells (G - 1):=⟨_,rfl⟩;have hrun:∀ ty,(Builtin.append_ #[23,23] ty #[.slice none 0 0,.slice (some ⟨vb,0,none⟩) 1 vc]).run Tryz.prog w=.ok (.slice (some ⟨w.heap.size,0,none⟩) 1 G) (w.drew.alloc (.cells row 33)):=by rw [hrow,hG];exact hrun0
  have hG1:1<=G:=by rw [hG];exact grownCap_ge w _ _ _
  have hG2:G<=maxLen:=by rw [hG];exact grownCap_le_maxLen w _ _ _ (by unfold maxLen;omega)
  have hr1:row.size=G * 5:=by rw [hrow,QxD,size_zeroCells,hzc,QxK,hvl];omega
  have hr2:row.toList.take ((0+1) * 5)=([]:List Value).take (0 * 5)++vs++([]:List Value).drop (0 * 5):=by
   rw [hrow,Qxz,Qxw (by simp [hvl]),Qxv (by simp [hvl])];simp
  clear hrow hG hrun0 hvs hvc' hzl
  go_enter Tryz.func156,Tryz.ntmps156
  go_wp2_with (at_builtin;refine Lib.wpList_append_run _ rfl _ _ _ _ rfl _ _ rfl rfl _ _ (hrun _) ?_)
  go_ret
  exact QcK hr1 hr2 hG1 hG2
 ·have hlt:b < w.heap.size:=(QxJ.1 hbk).1;have hcl:cs.length=n * 5:=by rw [hcs,Qxt,Qxx,hcz];exact QxA (QxU _ hnc)
  have hcl':cur.toList.length=c * 5:=by rw [Qxx];exact hcz
  have hcc:∀ j v,cs[j]? = some v->w.cell? ⟨b,j,none⟩=some v:=fun j v hj=>by
   rw [cell_of_row w b j cur _ _ hbk];rw [hcs,QxG] at hj;split at hj
   ·simpa using hj
   ·cases hj
  have hsrc:Go.Src Tryz.prog i0.size 23 (.slice (some ⟨vb,0,none⟩) 1 vc) 1 vs w:=Go.Src.ofSlice w ht ⟨vb,0,none⟩ 1 vc vs hvlc hvc' h1v;by_cases hkn:k=n
  ·subst hkn
   have hw:cs.take (k * 5)++vs++cs.drop (k * 5)=cs++vs:=by
    rw [Qxv (by omega),QxT (by omega),List.append_nil]
   by_cases hroom:k+1<=c
   ·have hrun:∀ ty,(Builtin.append_ #[23,23] ty #[.slice (some ⟨b,0,none⟩) k c,.slice (some ⟨vb,0,none⟩) 1 vc]).run Tryz.prog w=.ok (.slice (some ⟨b,0,none⟩) (k+1) c) (w.setCells b (k * 5) vs):=fun ty=>by
     have:=run_append_room_src (P:=Tryz.prog) w 23 23 ty 33 i0 ht hi0 b 0 k c _ 1 vs hsrc hroom (fun j hj=>by rw [cell_of_row w b _ cur _ _ hbk,Qxu (by rw [hcz,hzs];omega)];rfl) (fun j hj=>by unfold World.frozen?;simp only [hbk];simp)
     rwa [QxF,hzs] at this
    have hlist:(Qs (Qs cur.toList 0 []) (k * 5) vs).take ((k+1) * 5)=cs.take (k * 5)++vs++cs.drop (k * 5):=by
     rw [hw,Qdt,show (k+1) * 5=k * 5+vs.length from by rw [hvl];omega,Yo vs (k * 5) cur.toList (by rw [hcl',hvl];omega),hcs]
    clear hsrc hvs hvc' hzl hcc hcs
    go_enter Tryz.func156,Tryz.ntmps156
    go_wp2_with (at_builtin;refine Lib.wpList_append_run _ rfl _ _ _ _ rfl _ _ rfl rfl _ _ (hrun _) ?_)
    go_ret
    exact Jv (w0:=w) (w1:=w) (o1:=0) (xs:=[]) hbk ⟨rfl,rfl,rfl⟩ (Qxy _) (fun _ _ _=>rfl) rfl (.inl rfl) hcz (by first | exact hlist | (simp only [QxP] at hlist ⊢;exact hlist)) hroom hcm (.inr ⟨c,rfl⟩)
   ·have hold:(Builtin.firstCells i0.size k (.slice (some ⟨b,0,none⟩) k c)).run Tryz.prog w.drew=.ok cs.toArray w.drew:=run_firstCells_some w.drew i0.size k ⟨b,0,none⟩ k c cs (by rw [hzs];exact hcl) (fun j v hj=>by rw [Addr.add_mid,QxF];exact hcc j v hj)
    have hrun0:∀ ty,(Builtin.append_ #[23,23] ty #[.slice (some ⟨b,0,none⟩) k c,.slice (some ⟨vb,0,none⟩) 1 vc]).run Tryz.prog w=_:=fun ty =>
     run_append_grow_src (P:=Tryz.prog) w 23 23 ty 33 i0 z0 ht hi0 hz0 (some ⟨b,0,none⟩) k c cs hold _ 1 vs hsrc (by omega) (by omega) (growslice_fits (by omega) (by rw [hby];omega))
    obtain ⟨G,hG⟩:∃ G,G=grownCap w (k+1) c 33:=⟨_,rfl⟩;obtain ⟨row,hrow⟩:∃ row,row=(cs++vs).toArray++Builtin.zeroCells z0.cells (G - (k+1)):=⟨_,rfl⟩;have hrun:∀ ty,(Builtin.append_ #[23,23] ty #[.slice (some ⟨b,0,none⟩) k c,.slice (some ⟨vb,0,none⟩) 1 vc]).run Tryz.prog w=.ok (.slice (some ⟨w.heap.size,0,none⟩) (k+1) G) (w.drew.alloc (.cells row 33)):=by rw [hrow,hG];exact hrun0
    have hG1:k+1<=G:=by rw [hG];exact grownCap_ge w _ _ _
    have hG2:G<=maxLen:=by rw [hG];exact grownCap_le_maxLen w _ _ _ (by unfold maxLen;omega)
    have hr1:row.size=G * 5:=by rw [hrow,QxD,size_zeroCells,hzc,QxK,QxC,hvl,hcl];omega
    have hr2:row.toList.take ((k+1) * 5)=cs.take (k * 5)++vs++cs.drop (k * 5):=by
     rw [hw,hrow,Qxz,Qxw (by simp only [QxC,hvl,hcl];omega),Qxv (by simp only [QxC,hvl,hcl];omega)]
    clear hrow hG hrun0 hsrc hvs hvc' hzl hcc hcs hold
    go_enter Tryz.func156,Tryz.ntmps156
    go_wp2_with (at_builtin;refine Lib.wpList_append_run _ rfl _ _ _ _ rfl _ _ rfl rfl _ _ (hrun _) ?_)
    go_ret
    exact QcK hr1 hr2 hG1 hG2
  ·have hk':k < n:=by omega
   have hz2:¬ ((k:Int)=(n:Int)):=by omega
   have hdl:(cs.drop (k * 5)).length=(n - k) * 5:=by rw [Qxs,hcl];omega
   have hw1:IntKind.i64.wrap ((k:Int)+1)=(k:Int)+1:=by rw [IntKind.wrap_i64];omega
   have hc63:c<=9223372036854775807:=hcm;have hb1:(0:Int)<=(k:Int)+1:=by omega
   have htn:((k:Int)+1).toNat=k+1:=by omega
   have hb3:(k:Int)<=(n:Int)+1:=by omega
   have hb4:¬ (c=k):=by omega
   by_cases hroom:n+1<=c
   ·have hb2:¬ (c=k+1):=by omega
    have hsp:∀ j,j < (n+1) * 5->(w.cell? ⟨b,j,none⟩).isSome=true:=fun j hj=>by
     rw [cell_of_row w b j cur _ _ hbk,Qxu (by rw [hcz];omega)];rfl
    have hfz:∀ j,w.frozen? ⟨b,j,none⟩=false:=fun j=>by unfold World.frozen?;simp only [hbk];simp
    have hov:∀ lb cb,(callFunc 188 #[.slice (some ⟨vb,0,none⟩) 1 vc,.slice (some ⟨b,(k+1) * 5,none⟩) lb cb]).run Tryz.prog w=.ok (.value (.bool false)) w:=fun lb cb=>by
     rw [run_callFunc_extern Tryz.func188 (by kernel_rfl) (by kernel_rfl) (by kernel_rfl) (e:=Extern.SlicesOverlaps.overlaps #[23,23] #[4]) (by kernel_rfl),
      Lib.run_overlaps_apart w 23 4 33 ht 5 (fun w=>Qp hsz w) ⟨vb,0,none⟩ ⟨b,(k+1) * 5,none⟩ 1 vc lb cb (Ne.symm hne) 33 33 vcur.size cur.size (by unfold World.shape?;simp only [hvb]) (by unfold World.shape?;simp only [hbk]) (by rw [hcz];omega) (by unfold World.frozen?;simp only [hvb];simp) (by unfold World.frozen?;simp only [hvb];simp)]
     rfl
    have hm1:QxL (n+1 - k) (n - k)=n - k:=Nat.min_eq_right (by omega);have hm2:QxL 1 (n+1 - k)=1:=QxA (by omega)
    have hcp1:∀ ty dc sc,(Builtin.copy_ #[23,23] ty #[.slice (some ⟨b,(k+1) * 5,none⟩) (n - k) dc,.slice (some ⟨b,k * 5,none⟩) (n+1 - k) sc]).run Tryz.prog w.drew=.ok (goInt (n - k:Nat)) (w.drew.setCells b ((k+1) * 5) (cs.drop (k * 5))):=fun ty dc sc=>by
     have:=Q0 (P:=Tryz.prog) w.drew 23 23 ty 33 5 b ((k+1) * 5) (n - k) dc ⟨b,k * 5,none⟩ (n+1 - k) sc (cs.drop (k * 5)) ht hsz (by rw [Qxs,hcl,hm1];omega)
      (fun j v hj=>by rw [Addr.add_mid];exact hcc _ v (by rwa [QxO] at hj))
      (fun j hj=>hsp _ (by rw [Qxs,hcl] at hj;omega)) (fun j hj=>hfz _) (fun v hv=>h1c v (QxM hv))
     rwa [hm1] at this
    obtain ⟨W1,hW1⟩:∃ W1,W1=w.drew.setCells b ((k+1) * 5) (cs.drop (k * 5)):=⟨_,rfl⟩
    have hsp1:∀ j,j < (n+1) * 5->(W1.cell? ⟨b,j,none⟩).isSome=true:=fun j hj=>by
     obtain ⟨cur',c1,c2,_⟩:=QC b (cs.drop (k * 5)) ((k+1) * 5) w.drew cur _ _ hbk;rw [hW1,cell_of_row _ b j cur' _ _ c1,Qxu (by rw [c2,hcz];omega)];rfl
    have hcp2:∀ (W:World),(∀ x,W.cell? x=W1.cell? x)->(∀ x,W.frozen? x=W1.frozen? x) -> ∀ ty dc,(Builtin.copy_ #[23,23] ty #[.slice (some ⟨b,k * 5,none⟩) (n+1 - k) dc,.slice (some ⟨vb,0,none⟩) 1 vc]).run Tryz.prog W=.ok (goInt 1) (W.setCells b (k * 5) vs):=fun W hWc hWf ty dc=>by
     have:=Q0 (P:=Tryz.prog) W 23 23 ty 33 5 b (k * 5) (n+1 - k) dc ⟨vb,0,none⟩ 1 vc vs ht hsz (by rw [hvl,hm2])
      (fun j v hj=>by
       rw [Addr.add_mid,hWc,hW1,World.cell?_setCells_out b _ _ _ _ (fun h _=>absurd h (Ne.symm hne))];have:=hvc' j v hj
       rwa [Addr.add_mid] at this)
      (fun j hj=>by rw [hWc];exact hsp1 _ (by omega)) (fun j hj=>by rw [hWf,hW1,World.frozen?_setCells];exact hfz _) h1v
     rwa [hm2] at this
    have hlist:(Qs (Qs cur.toList ((k+1) * 5) (cs.drop (k * 5))) (k * 5) vs).take ((n+1) * 5)=cs.take (k * 5)++vs++cs.drop (k * 5):=by
     have hdl2:(cs.drop (k * 5)).length=n * 5 - (k * 5):=by rw [Qxs,hcl]
     have:=Qfy cur.toList vs (cs.drop (k * 5)) (k * 5) (by rw [hcl',hvl,hdl2];omega);have e1:k * 5=k * 5:=by omega
     have e2:(k+1) * 5=k * 5+5:=by omega
     have e3:cur.toList.take (k * 5)=cs.take (k * 5):=by rw [hcs,List.take_take,QxA (by omega)]
     rw [hvl,hdl2,show k * 5+5+(n * 5 - (k * 5))=(n+1) * 5 from by omega,e3] at this;rw [e1,e2];exact this
    rw [<- hW1] at hcp1;have hWo:=Lib.hid hW1;clear hsrc hvs hvc' hzl hcc hcs hW1 hsp hfz hsp1
    go_enter Tryz.func156,Tryz.ntmps156
    go_wp2_with (simp only [hov])
    go_region_law_o (refine step_copy_runI rfl _ _ 23 23 rfl _ _ (by simp [Act.eval,Act.put]) (by simp [Act.eval,Act.put]) (hcp1 _ _ _) ?_)
    go_wp2_with (at_builtin;refine wpList_copy_runI _ rfl _ _ 23 23 rfl _ _ rfl rfl (hcp2 _ (fun _=>rfl) (fun _=>rfl) _ _) ?_)
    go_ret
    exact Jv (w0:=w.drew) (w1:=W1) hbk ⟨rfl,rfl,rfl⟩ (Qxy _) (fun _ _ _=>rfl) hWo.out (by first | exact .inl rfl | exact .inr rfl) hcz (by first | exact hlist | (simp only [QxP,QxE] at hlist ⊢;exact hlist)) hroom hcm (.inr ⟨c,rfl⟩)
   ·have hkk:(n:Int)+1 - (k:Int)=((n+1 - k:Nat):Int):=by omega
    have hik:k+(n+1 - k)=n+1:=by omega
    have hz3:(c:Int) < (n:Int)+1:=by omega
    have hold:(Builtin.firstCells i0.size k (.slice (some ⟨b,0,none⟩) k c)).run Tryz.prog w.drew=.ok (cs.take (k * 5)).toArray w.drew:=run_firstCells_some w.drew i0.size k ⟨b,0,none⟩ k c (cs.take (k * 5)) (by rw [hzs,Qxt,hcl];omega) (fun j v hj=>by
     rw [Addr.add_mid,QxF];rw [QxG] at hj;split at hj
     ·exact hcc j v hj
     ·cases hj)
    have htI:Tryz.prog.underlying 3=some (.int .i64):=Tryz.underlying3;obtain ⟨G,hG⟩:∃ G,G=grownCap w (n+1) c 33:=⟨_,rfl⟩;obtain ⟨row,hrow⟩:∃ row:Array Value,row=(cs.take (k * 5)).toArray++Builtin.zeroCells z0.cells (n+1 - k)++Builtin.zeroCells z0.cells (G - (n+1)):=⟨_,rfl⟩
    have hrz:∀ ty,(Builtin.append_ #[23,3] ty #[.slice (some ⟨b,0,none⟩) k c,.int .i64 ((n:Int)+1 - (k:Int))]).run Tryz.prog w=.ok (.slice (some ⟨w.heap.size,0,none⟩) (n+1) G) (w.drew.alloc (.cells row 33)):=fun ty=>by
     have h:=Lib.run_append_grow_zeros (P:=Tryz.prog) w 23 3 ty 33 i0 z0 .i64 .i64 ht htI hi0 hz0 (some ⟨b,0,none⟩) k c _ hold (n+1 - k) (by omega) (by omega) (by omega) (by omega) (by rw [hby];omega) (by rw [hby,hik];exact growslice_fits (by omega) (by omega));rw [hik,<- hG,<- hrow] at h;rw [hkk];exact h
    have hGn:n+1<=G:=by rw [hG];exact grownCap_ge w _ _ _
    have hG2:G<=maxLen:=by rw [hG];exact grownCap_le_maxLen w _ _ _ (by unfold maxLen;omega)
    have hG63:G<=9223372036854775807:=hG2;have hr1:row.size=G * 5:=by rw [hrow,QxD,QxD,size_zeroCells,size_zeroCells,hzc,QxK,Qxt,hcl];omega
    have hrt:row.toList.take (k * 5)=cs.take (k * 5):=by
     rw [hrow,Qxz,Qxz,QxE,Qxw (by rw [Qxt,hcl];omega)];exact Qxv (by rw [Qxt,hcl];omega)
    obtain ⟨W1,hW1⟩:∃ W1,W1=w.drew.alloc (.cells row 33):=⟨_,rfl⟩;rw [<- hW1] at hrz
    have hN:∀ j,j < (n+1) * 5->(W1.cell? ⟨w.heap.size,j,none⟩).isSome=true:=fun j hj=>by
     have hjr:j < row.size:=by rw [hr1];omega
     rw [hW1,World.cell?_alloc_at (w:=w.drew) row _ w.heap.size j rfl,Qxu hjr];rfl
    have hNf:∀ j,W1.frozen? ⟨w.heap.size,j,none⟩=false:=fun j=>by rw [hW1];exact World.frozen?_alloc_at (w:=w.drew) row _ w.heap.size j rfl
    have hOb:∀ j v,w.cell? ⟨b,j,none⟩=some v->W1.cell? ⟨b,j,none⟩=some v:=fun j v h=>by rw [hW1,World.cell?_alloc_past (w:=w.drew) _ b j hlt];exact h
    have hOv:∀ j v,w.cell? ⟨vb,j,none⟩=some v->W1.cell? ⟨vb,j,none⟩=some v:=fun j v h=>by rw [hW1,World.cell?_alloc_past (w:=w.drew) _ vb j hvlt];exact h
    have hm1:QxL (n - k) (n+1 - (k+1))=n - k:=QxA (by omega);have hm2:QxL 1 (n+1 - k)=1:=QxA (by omega);have hbN:b≠w.heap.size:=by omega
    have hcpA:∀ (W:World),(∀ x,W.cell? x=W1.cell? x)->(∀ x,W.frozen? x=W1.frozen? x) -> ∀ ty dc,(Builtin.copy_ #[23,23] ty #[.slice (some ⟨w.heap.size,k * 5,none⟩) (n+1 - k) dc,.slice (some ⟨vb,0,none⟩) 1 vc]).run Tryz.prog W=.ok (goInt 1) (W.setCells w.heap.size (k * 5) vs):=fun W hWc hWf ty dc=>by
     have:=Q0 (P:=Tryz.prog) W 23 23 ty 33 5 w.heap.size (k * 5) (n+1 - k) dc ⟨vb,0,none⟩ 1 vc vs ht hsz (by rw [hvl,hm2])
      (fun j v hj=>by rw [Addr.add_mid,hWc];exact hOv _ v (by have:=hvc' j v hj;rwa [Addr.add_mid] at this))
      (fun j hj=>by rw [hWc];exact hN _ (by omega)) (fun j hj=>by rw [hWf];exact hNf _) h1v
     rwa [hm2] at this
    have hcpB:∀ (W:World),(∀ x,W.cell? x=(W1.setCells w.heap.size (k * 5) vs).cell? x)->(∀ x,W.frozen? x=(W1.setCells w.heap.size (k * 5) vs).frozen? x) -> ∀ ty dc sc,(Builtin.copy_ #[23,23] ty #[.slice (some ⟨w.heap.size,(k+1) * 5,none⟩) (n - k) dc,.slice (some ⟨b,k * 5,none⟩) (n - k) sc]).run Tryz.prog W=.ok (goInt (n - k:Nat)) (W.setCells w.heap.size ((k+1) * 5) (cs.drop (k * 5))):=fun W hWc hWf ty dc sc=>by
     have:=Q0 (P:=Tryz.prog) W 23 23 ty 33 5 w.heap.size ((k+1) * 5) (n - k) dc ⟨b,k * 5,none⟩ (n - k) sc (cs.drop (k * 5)) ht hsz (by rw [Qxs,hcl,show QxL (n - k) (n - k)=n - k from QxS _];omega)
      (fun j v hj=>by
       rw [Addr.add_mid,hWc,World.cell?_setCells_out _ _ _ _ _ (fun h _=>absurd h hbN)]
       exact hOb _ v (hcc _ v (by rwa [QxO] at hj)))
      (fun j hj=>by rw [hWc];exact isSome_setCells _ _ _ _ (fun t ht=>hN _ (by rw [hvl] at ht;omega)) _ (hN _ (by rw [Qxs,hcl] at hj;omega)))
      (fun j hj=>by rw [hWf,World.frozen?_setCells];exact hNf _) (fun v hv=>h1c v (QxM hv))
     rwa [show QxL (n - k) (n - k)=n - k from QxS _] at this
    have hlist:(Qs (Qs row.toList (k * 5) vs) ((k+1) * 5) (cs.drop (k * 5))).take ((n+1) * 5)=cs.take (k * 5)++vs++cs.drop (k * 5):=by
     have hdl2:(cs.drop (k * 5)).length=n * 5 - (k * 5):=by rw [Qxs,hcl]
     have hrl:row.toList.length=G * 5:=by rw [Qxx];exact hr1
     have:=Qi9 row.toList vs (cs.drop (k * 5)) (k * 5) (by rw [hrl,hvl,hdl2];omega);have e1:k * 5=k * 5:=by omega
     have e2:(k+1) * 5=k * 5+5:=by omega
     rw [hvl,hdl2,show k * 5+5+(n * 5 - (k * 5))=(n+1) * 5 from by omega,hrt] at this;rw [e1,e2];exact this
    have hGi:¬ (G=k):=by omega
    have hGim:¬ (G=k+1):=by omega
    have hb5:(k:Int)<=(n:Int):=by omega
    have hn1:n+1 - (k+1)=n - k:=by omega
    clear hsrc hvs hvc' hzl hcc hcs hrow hG hold hrt hN hNf hOb hOv hkk hik;subst hW1;have hE1:∀ x,((w.alloc (.cells row 33)).drew).cell? x=(w.drew.alloc (.cells row 33)).cell? x:=fun x=>rfl;have hE2:∀ x,((w.alloc (.cells row 33)).drew).frozen? x=(w.drew.alloc (.cells row 33)).frozen? x:=fun x=>rfl;have hF1:∀ x,(((w.alloc (.cells row 33)).drew.setCells w.heap.size (k * 5) vs).drew).cell? x=((w.drew.alloc (.cells row 33)).setCells w.heap.size (k * 5) vs).cell? x:=fun x=>rfl;have hF2:∀ x,(((w.alloc (.cells row 33)).drew.setCells w.heap.size (k * 5) vs).drew).frozen? x=((w.drew.alloc (.cells row 33)).setCells w.heap.size (k * 5) vs).frozen? x:=fun x=>rfl
    go_enter Tryz.func156,Tryz.ntmps156
    go_wp2_with (first
     | (at_builtin;refine Lib.wpList_append_run _ rfl _ _ _ _ rfl _ _ rfl rfl _ _ (hrz _) ?_)
     | (at_builtin;refine wpList_copy_runI _ rfl _ _ 23 23 rfl _ _ rfl rfl (hcpA _ hE1 hE2 _ _) ?_))
    go_region_law_o (refine step_copy_runI rfl _ _ 23 23 rfl (.slice (some ⟨w.heap.size,(k+1) * 5,none⟩) (n - k) (G - (k+1))) (.slice (some ⟨b,k * 5,none⟩) (n - k) (c - k)) (by simp [Act.eval,Act.put]) (by simp [Act.eval,Act.put]) (hcpB _ hF1 hF2 3 (G - (k+1)) (c - k)) ?_)
    go_wp2
    go_ret
    exact Jv (w0:=w.drew.alloc (.cells row 33)) (w1:=(w.drew.alloc (.cells row 33)).setCells w.heap.size (k * 5) vs) (heap_alloc_new w.drew _) ⟨rfl,rfl,rfl⟩ (by simp) (fun x _ hx=>Below.heap_alloc _ _ _ hx) rfl (by first | exact .inr rfl | exact .inl rfl) hr1 (by first | exact hlist | (simp only [QxP,QxE] at hlist ⊢;exact hlist)) hGn hG2 (.inl (Qxy _))
end
end Go.Proofs.YtcebndkiagbddaaGreatDoor
