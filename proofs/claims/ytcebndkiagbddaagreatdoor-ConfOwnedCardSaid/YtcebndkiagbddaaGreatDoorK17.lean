/- A part of the proof: contracts of functions and what they stand on. Written shorter and merged by a program (pack.py). -/
import Derived.Test.YtcebndkiagbddaaGreatDoorRows
import Derived.Lib.Repeat
import Derived.Lib.ItoaNum
import Derived.Test.YtcebndkiagbddaaGreatDoorK16
set_option linter.unusedVariables false
set_option linter.unusedSimpArgs false
set_option maxRecDepth 100000
set_option maxHeartbeats 4000000
open Nat renaming le_refl -> Qxo, mod_lt -> Qxp, strongRecOn -> Qxw
open List renaming all_cons -> Qxq, getD_eq_getElem?_getD -> Qxt
open Bool renaming and_eq_true -> Qxr, noConfusion -> Qxu
open UInt8 renaming ofNat -> Qxs
open Int renaming eq_ofNat_of_zero_le -> Qxv
namespace Go.Proofs.YtcebndkiagbddaaGreatDoor
section
open Go.RowKit
section
variable {E:Env} {φ:Qi} {Pub:Nat->Nat->Prop} {w w':World}
theorem QnS (hp:∀ b i,Pub b i->b < w.heap.size) (hb:Below w.heap.size w w'):Adv w Pub w' Pub:=fun b i h=>by
 refine ⟨h,?_⟩;simp only [World.cell?,hb.block b (hp b i h)]
theorem Inv.below (I:Inv E [] φ Pub [] w) (e:E.w0=w) (hb:Below w.heap.size w w'):Inv E [] φ Pub [] w' :=
 I.next hb.os hb.tape hb.output hb.size (fun b h _=>hb.block b (by rw [e] at h;exact h)) (QnS I.publ hb) (fun _ _ h=>.inl h) (fun b i h=>Nat.lt_of_lt_of_le (I.publ b i h) hb.size)
  (fun r h=>Qxu (show false=true from h)) (fun r _ _ h=>Qxu (show false=true from h)) (fun r _ _ _ _ h=>Qxu (show false=true from h)) (fun _ h=>by cases h)
end
theorem Cf.of {P:Program} {f:FuncId} {ags:List EV} {u:Value} (hc:QX P f=true)
  (h:∀ (w:World) (Pub:Nat->Nat->Prop) (φ:Qi) (vs:List Value),(∀ b i,Pub b i->b < w.heap.size)->RAs w Pub φ (avL ags) vs->Calls P f vs.toArray w fun e w'=>e=.returned u/\Below w.heap.size w w'):Cf P f [] ags [] (.v u):=by
 refine ⟨hc,fun E φ Pub w vs e1 e2 I hR=>(h w Pub φ vs I.publ hR).mono ?_⟩;rintro e w' ⟨rfl,hb⟩;exact ⟨u,φ,Pub,rfl,I.below e1 hb,by unfold EV.av RA RP;rfl⟩
end
section
open Go.RowKit
theorem sizeBuilder:(Tryz.prog.info? 204).map (·.size)=some 2:=by kernel_rfl
theorem liesBuilder:liesAt Tryz.prog Tryz.prog.depth 204 (2 / Tryz.prog.cellsOf 204) 0 204 1=true:=by kernel_rfl
end
section
open Go.RowKit
def Qgz (k:Nat):Nat:=[0,167772160,167837696,167838208,167838211,167903232,167772160,3232235520,3232235776,2147483648,167838336].getD k 0
def QkC (k:Nat):Nat:=[0,8,16,24,32,16,9,16,24,1,25].getD k 0
abbrev QdT:Array Value:=#[.int .u32 0,.int .i64 0,.int .u32 167772160,.int .i64 8,.int .u32 167837696,.int .i64 16,.int .u32 167838208,.int .i64 24,.int .u32 167838211,.int .i64 32,.int .u32 167903232,.int .i64 16,.int .u32 167772160,.int .i64 9,.int .u32 3232235520,.int .i64 16,.int .u32 3232235776,.int .i64 24,.int .u32 2147483648,.int .i64 1,.int .u32 167838336,.int .i64 25]
theorem Qb7 (k:Nat) (h:k < 11):QdT[2 * k]? = some (.int .u32 (Qgz k:Int))/\QdT[2 * k+1]? = some (.int .i64 (QkC k:Int)):=by
 match k,h with
 | 0,_ | 1,_ | 2,_ | 3,_ | 4,_ | 5,_ | 6,_ | 7,_ | 8,_ | 9,_ | 10,_=>exact ⟨rfl,rfl⟩
theorem Qt5 (k:Nat):Qgz k < 4294967296:=by
 unfold Qgz;by_cases h:k < 11
 ·match k,h with
  | 0,_ | 1,_ | 2,_ | 3,_ | 4,_ | 5,_ | 6,_ | 7,_ | 8,_ | 9,_ | 10,_=>decide
 ·rw [Qxt,List.getElem?_eq_none (by simp;omega)];decide
theorem QnW (k:Nat) (h:k < 11):Zm (Qgz k) (QkC k:Int):=by
 match k,h with
 | 0,_ | 1,_ | 2,_ | 3,_ | 4,_ | 5,_ | 6,_ | 7,_ | 8,_ | 9,_ | 10,_=>decide +kernel
set_option maxHeartbeats 800000 in
theorem Qqx (w:World) :
  Calls Tryz.prog 65 #[] w fun e w'=>e=.returned (.slice (some ⟨w.heap.size,0,none⟩) 11 11)/\w.alloc (.cells QdT 36)=w':=by
 have f0:bits .or .u32 167772160 0=167772160:=by kernel_rfl
 have f1:bits .or .u32 167772160 65536=167837696:=by kernel_rfl
 have f2:bits .or .u32 167837696 0=167837696:=by kernel_rfl
 have f3:bits .or .u32 167837696 512=167838208:=by kernel_rfl
 have f4:bits .or .u32 167838208 0=167838208:=by kernel_rfl
 have f5:bits .or .u32 167838208 3=167838211:=by kernel_rfl
 have f6:bits .or .u32 167772160 131072=167903232:=by kernel_rfl
 have f7:bits .or .u32 167903232 0=167903232:=by kernel_rfl
 have f8:bits .or .u32 3221225472 11010048=3232235520:=by kernel_rfl
 have f9:bits .or .u32 3232235520 0=3232235520:=by kernel_rfl
 have f10:bits .or .u32 3232235520 256=3232235776:=by kernel_rfl
 have f11:bits .or .u32 3232235776 0=3232235776:=by kernel_rfl
 have f12:bits .or .u32 2147483648 0=2147483648:=by kernel_rfl
 have f13:bits .or .u32 167838208 128=167838336:=by kernel_rfl
 go_enter Tryz.func65,Tryz.ntmps65
 go_wp2
 go_ret
 exact ⟨rfl,rfl⟩
end
section
open Go.RowKit
theorem QaL (k:Nat) (n:Int) (w:World) (e:n=(k:Int)) (h1:k<=32) :
  Calls Tryz.prog 103 #[.int .i64 n] w fun e w'=>e=.returned (.int .u32 ((ZK k:Nat):Int))/\w=w':=by
 subst e
 have e1:(4294967295 * 2 ^ (32 - k) % 4294967296:Int)=((ZK k:Nat):Int):=by
  rw [<- QkA k,Int.natCast_emod,Int.natCast_mul,Int.natCast_pow];rfl
 have E:=Lib.hid e1;clear e1
 go_enter Tryz.func103,Tryz.ntmps103
 go_wp2
 go_ret
 exact ⟨Vd E.out,rfl⟩
abbrev Y5 (a:Nat) (n:Int):Value:=.agg #[.int .u32 (a:Int),.int .i64 n]
set_option maxHeartbeats 400000 in
theorem QnX (a:Nat) (n:Int) (w:World) (ha:a < 4294967296) :
  Calls Tryz.prog 58 #[Y5 a n] w fun e w'=>e=.returned (.int .i64 (WO a n))/\Below w.heap.size w w':=by
 by_cases h0:n < 0
 ·have E:=Lib.hid (show WO a n=4 by unfold WO;rw [if_pos (.inl h0)])
  go_enter Tryz.func58,Tryz.ntmps58
  go_wp2
  go_ret
  exact ⟨Vd E.out.symm,(Below.refl _ _).alloc (Qxo _) _⟩
 ·by_cases h1:32 < n
  ·have E:=Lib.hid (show WO a n=4 by unfold WO;rw [if_pos (.inr h1)])
   go_enter Tryz.func58,Tryz.ntmps58
   go_wp2
   go_ret
   exact ⟨Vd E.out.symm,(Below.refl _ _).alloc (Qxo _) _⟩
  ·obtain ⟨k,rfl⟩:=Qxv (show 0<=n by omega);have hk:k<=32:=by omega
   have hm:=QdR k
   have hb:bits .andNot .u32 (a:Int) ((ZK k:Nat):Int)=((a % 2 ^ (32 - k):Nat):Int):=by
    rw [u32_andNot_nat a (ZK k) ha hm,Qgx]
   by_cases hz:a % 2 ^ (32 - k)=0
   ·have E:=Lib.hid (show WO a (k:Int)=0 from WL.2 ⟨by omega,by omega,hz⟩);have hb2:bits .andNot .u32 (a:Int) ((ZK k:Nat):Int)=0:=by rw [hb,hz];rfl
    clear hb hz
    go_enter Tryz.func58,Tryz.ntmps58
    go_wp2
    go_quiet ((go_at_call 103;exact Qc6 (QaL _ _ _ rfl hk)))
    go_wp2
    go_ret
    exact ⟨Vd E.out.symm,QbU ((Below.refl _ _).alloc (Qxo _) _) _⟩
   ·have E:=Lib.hid (show WO a (k:Int)=3 by unfold WO;rw [if_neg (by omega),Int.toNat_natCast,if_pos hz]);have hb2:(bits .andNot .u32 (a:Int) ((ZK k:Nat):Int) != 0)=true:=by rw [hb,bne_iff_ne];exact_mod_cast hz
    clear hb hz
    go_enter Tryz.func58,Tryz.ntmps58
    go_wp2
    go_quiet ((go_at_call 103;exact Qc6 (QaL _ _ _ rfl hk)))
    go_wp2
    go_ret
    exact ⟨Vd E.out.symm,QbU ((Below.refl _ _).alloc (Qxo _) _) _⟩
theorem ZY (a:Nat) (n r:Int) (w:World) (ha:a < 4294967296) (h:Hid (WO a n=r)) :
  Calls Tryz.prog 58 #[Y5 a n] w fun e w'=>e=.returned (.int .i64 r)/\Below w.heap.size w w' :=
 (QnX a n w ha).mono fun _ _ ⟨h1,h2⟩=>⟨by rw [h1,h.out],h2⟩
set_option maxHeartbeats 400000 in
theorem Qt6 (a:Nat) (n:Int) (x:Nat) (w:World) (ha:a < 4294967296) (hx:x < 4294967296) :
  Calls Tryz.prog 104 #[Y5 a n,.int .u32 (x:Int)] w fun e w'=>e=.returned (.bool (Qir a n x))/\Below w.heap.size w w':=by
 by_cases hv:Zm a n
 ·obtain ⟨k,rfl⟩:=Qxv hv.1;have hk:k<=32:=by have:=hv.2.1;omega
  have hq:=Lib.hid (WL.2 hv)
  have hb:bits .and .u32 (x:Int) ((ZK k:Nat):Int)=((Zl x k:Nat):Int):=by
   rw [u32_and_nat x (ZK k) hx (QdR k),Qfj x k hx hk]
  have E:=Lib.hid (show Qir a (k:Int) x=(((Zl x k:Nat):Int) == (a:Int)) by
   unfold Qir;rw [Bool.eq_iff_iff];simp [hv];exact Int.ofNat_inj.symm)
  clear hv
  go_enter Tryz.func104,Tryz.ntmps104
  go_wp2
  have hw:Below w.heap.size w (w.alloc (Obj.cells #[.int .u32 (a:Int),.int .i64 (k:Int)] 36)):=((Below.refl w.heap.size w).alloc (by first | exact Qxo _ | (simp;done) | (simp;omega)) _);have hc0_0:(w.alloc (Obj.cells #[.int .u32 (a:Int),.int .i64 (k:Int)] 36)).cell? ⟨w.heap.size,0,none⟩=some (.int .u32 (a:Int)):=QE (by first | rfl | simp) 0 rfl;have hc0_1:(w.alloc (Obj.cells #[.int .u32 (a:Int),.int .i64 (k:Int)] 36)).cell? ⟨w.heap.size,1,none⟩=some (.int .i64 (k:Int)):=QE (by first | rfl | simp) 1 rfl;have hs0:w.heap.size < (w.alloc (Obj.cells #[.int .u32 (a:Int),.int .i64 (k:Int)] 36)).heap.size:=by simp <;> omega
  have hz0:∀ o,(w.alloc (Obj.cells #[.int .u32 (a:Int),.int .i64 (k:Int)] 36)).frozen? ⟨w.heap.size,o,none⟩=false:=fun o=>W0 (by first | rfl | simp) o;generalize (w.alloc (Obj.cells #[.int .u32 (a:Int),.int .i64 (k:Int)] 36))=w0 at *;have hB:Below w0.heap.size w0 w0:=Below.refl _ _
  go_region_held3 (fun w'=>Below w0.heap.size w0 w' /\ ∀ b o,b < w0.heap.size->w'.cell? ⟨b,o,none⟩=w0.cell? ⟨b,o,none⟩) (first | exact Qj3 hB | assumption | (go_split_ands;exact Qvq (Zk (by assumption) hb))) (first | (go_at_call 58;(with_reducible refine (ZY _ _ _ _ ha hq).mono ?_);rintro e w1 ⟨rfl,hb⟩) | (go_at_call 103;refine (QaL _ _ _ rfl hk).mono ?_;rintro e w1 ⟨rfl,rfl⟩))
  go_wp2
  go_ret
  exact ⟨VH E.out.symm,hw.trans ((‹Below _ _ _/\_›).1.mono hw.size)⟩
 ·have E:=Lib.hid (show Qir a n x=false by unfold Qir;simp [hv]);rcases QdS hv with h | h
  all_goals
   have hq:=Lib.hid h;clear hv h
   go_enter Tryz.func104,Tryz.ntmps104
   go_wp2
   have hw:Below w.heap.size w (w.alloc (Obj.cells #[.int .u32 (a:Int),.int .i64 n] 36)):=((Below.refl w.heap.size w).alloc (by first | exact Qxo _ | (simp;done) | (simp;omega)) _);have hc0_0:(w.alloc (Obj.cells #[.int .u32 (a:Int),.int .i64 n] 36)).cell? ⟨w.heap.size,0,none⟩=some (.int .u32 (a:Int)):=QE (by first | rfl | simp) 0 rfl;have hc0_1:(w.alloc (Obj.cells #[.int .u32 (a:Int),.int .i64 n] 36)).cell? ⟨w.heap.size,1,none⟩=some (.int .i64 n):=QE (by first | rfl | simp) 1 rfl;have hs0:w.heap.size < (w.alloc (Obj.cells #[.int .u32 (a:Int),.int .i64 n] 36)).heap.size:=by simp <;> omega
   have hz0:∀ o,(w.alloc (Obj.cells #[.int .u32 (a:Int),.int .i64 n] 36)).frozen? ⟨w.heap.size,o,none⟩=false:=fun o=>W0 (by first | rfl | simp) o;generalize (w.alloc (Obj.cells #[.int .u32 (a:Int),.int .i64 n] 36))=w0 at *;have hB:Below w0.heap.size w0 w0:=Below.refl _ _;refine Qcj (fun w'=>Below w0.heap.size w0 w') (by kernel_rfl) (by kernel_rfl) hB.drew ?_
   repeat (first | go_big_quiet_skip | (go_big_quiet_want;apply Exists.intro;refine ⟨fun w1 h1=>?_,?_⟩;(focus (have hc:=(Qc7 h1).1;unfold Oper.quietAt;go_simp;first | done | exact rfl | ((go_at_call 58;exact Qj1 h1 (ZY _ _ _ _ ha hq)))));go_big_quiet_on;try simp only [Act.put,List.setIfInBounds_toArray,List.set_cons_zero,List.set_cons_succ]))
   refine wpQuiet_nil ?_;intro w1 hB
   go_wp2
   go_ret
   exact ⟨VH E.out.symm,hw.trans (hB.mono hw.size)⟩
set_option maxHeartbeats 400000 in
theorem QnY (a:Nat) (n:Int) (b:Nat) (m:Int) (w:World) (ha:a < 4294967296) (hb':b < 4294967296) :
  Calls Tryz.prog 60 #[Y5 a n,Y5 b m] w fun e w'=>e=.returned (.bool (YY a n b m))/\Below w.heap.size w w':=by
 by_cases hv:Zm b m
 ·have hq:=Lib.hid (WL.2 hv);by_cases hn:n<=m
  ·have E:=Lib.hid (show YY a n b m=Qir a n b by unfold YY;simp [hv,hn]);clear hv
   go_enter Tryz.func60,Tryz.ntmps60
   go_wp2_with (fail)
   have hw:Below w.heap.size w ((w.alloc (Obj.cells #[.int .u32 (a:Int),.int .i64 n] 36)).alloc (Obj.cells #[.int .u32 (b:Int),.int .i64 m] 36)):=((((Below.refl w.heap.size w).alloc (by first | exact Qxo _ | (simp;done) | (simp;omega)) _)).alloc (by first | exact Qxo _ | (simp;done) | (simp;omega)) _);have hc0_0:((w.alloc (Obj.cells #[.int .u32 (a:Int),.int .i64 n] 36)).alloc (Obj.cells #[.int .u32 (b:Int),.int .i64 m] 36)).cell? ⟨w.heap.size,0,none⟩=some (.int .u32 (a:Int)):=Wg (QE (by first | rfl | simp) 0 rfl);have hc0_1:((w.alloc (Obj.cells #[.int .u32 (a:Int),.int .i64 n] 36)).alloc (Obj.cells #[.int .u32 (b:Int),.int .i64 m] 36)).cell? ⟨w.heap.size,1,none⟩=some (.int .i64 n):=Wg (QE (by first | rfl | simp) 1 rfl);have hc1_0:((w.alloc (Obj.cells #[.int .u32 (a:Int),.int .i64 n] 36)).alloc (Obj.cells #[.int .u32 (b:Int),.int .i64 m] 36)).cell? ⟨w.heap.size+1,0,none⟩=some (.int .u32 (b:Int)):=QE (by first | rfl | simp) 0 rfl;have hc1_1:((w.alloc (Obj.cells #[.int .u32 (a:Int),.int .i64 n] 36)).alloc (Obj.cells #[.int .u32 (b:Int),.int .i64 m] 36)).cell? ⟨w.heap.size+1,1,none⟩=some (.int .i64 m):=QE (by first | rfl | simp) 1 rfl;have hs0:w.heap.size < ((w.alloc (Obj.cells #[.int .u32 (a:Int),.int .i64 n] 36)).alloc (Obj.cells #[.int .u32 (b:Int),.int .i64 m] 36)).heap.size:=by simp <;> omega
   have hs1:w.heap.size+1 < ((w.alloc (Obj.cells #[.int .u32 (a:Int),.int .i64 n] 36)).alloc (Obj.cells #[.int .u32 (b:Int),.int .i64 m] 36)).heap.size:=by simp <;> omega
   have hz0:∀ o,((w.alloc (Obj.cells #[.int .u32 (a:Int),.int .i64 n] 36)).alloc (Obj.cells #[.int .u32 (b:Int),.int .i64 m] 36)).frozen? ⟨w.heap.size,o,none⟩=false:=fun o=>Y9 (by first | (simp;done) | (simp;omega)) (W0 (by first | rfl | simp) o);have hz1:∀ o,((w.alloc (Obj.cells #[.int .u32 (a:Int),.int .i64 n] 36)).alloc (Obj.cells #[.int .u32 (b:Int),.int .i64 m] 36)).frozen? ⟨w.heap.size+1,o,none⟩=false:=fun o=>W0 (by first | rfl | simp) o;generalize ((w.alloc (Obj.cells #[.int .u32 (a:Int),.int .i64 n] 36)).alloc (Obj.cells #[.int .u32 (b:Int),.int .i64 m] 36))=w0 at *;have hB:Below w0.heap.size w0 w0:=Below.refl _ _
   go_wp2_with (first | (go_at_call 58;(with_reducible refine (ZY _ _ _ _ hb' hq).mono ?_);rintro e w1 ⟨rfl,hb⟩;have hB:=Zk hB hb;have hc:=(Qc7 hB).1) | (go_at_call 104;(with_reducible refine (Qt6 _ _ _ _ ha hb').mono ?_);rintro e w1 ⟨rfl,hb⟩;have hB:=Zk hB hb;have hc:=(Qc7 hB).1))
   go_ret
   exact ⟨VH E.out.symm,hw.trans (hB.mono hw.size)⟩
  ·have E:=Lib.hid (show YY a n b m=false by unfold YY;simp [hn]);clear hv
   go_enter Tryz.func60,Tryz.ntmps60
   go_wp2_with (fail)
   have hw:Below w.heap.size w ((w.alloc (Obj.cells #[.int .u32 (a:Int),.int .i64 n] 36)).alloc (Obj.cells #[.int .u32 (b:Int),.int .i64 m] 36)):=((((Below.refl w.heap.size w).alloc (by first | exact Qxo _ | (simp;done) | (simp;omega)) _)).alloc (by first | exact Qxo _ | (simp;done) | (simp;omega)) _);have hc0_0:((w.alloc (Obj.cells #[.int .u32 (a:Int),.int .i64 n] 36)).alloc (Obj.cells #[.int .u32 (b:Int),.int .i64 m] 36)).cell? ⟨w.heap.size,0,none⟩=some (.int .u32 (a:Int)):=Wg (QE (by first | rfl | simp) 0 rfl);have hc0_1:((w.alloc (Obj.cells #[.int .u32 (a:Int),.int .i64 n] 36)).alloc (Obj.cells #[.int .u32 (b:Int),.int .i64 m] 36)).cell? ⟨w.heap.size,1,none⟩=some (.int .i64 n):=Wg (QE (by first | rfl | simp) 1 rfl);have hc1_0:((w.alloc (Obj.cells #[.int .u32 (a:Int),.int .i64 n] 36)).alloc (Obj.cells #[.int .u32 (b:Int),.int .i64 m] 36)).cell? ⟨w.heap.size+1,0,none⟩=some (.int .u32 (b:Int)):=QE (by first | rfl | simp) 0 rfl;have hc1_1:((w.alloc (Obj.cells #[.int .u32 (a:Int),.int .i64 n] 36)).alloc (Obj.cells #[.int .u32 (b:Int),.int .i64 m] 36)).cell? ⟨w.heap.size+1,1,none⟩=some (.int .i64 m):=QE (by first | rfl | simp) 1 rfl;have hs0:w.heap.size < ((w.alloc (Obj.cells #[.int .u32 (a:Int),.int .i64 n] 36)).alloc (Obj.cells #[.int .u32 (b:Int),.int .i64 m] 36)).heap.size:=by simp <;> omega
   have hs1:w.heap.size+1 < ((w.alloc (Obj.cells #[.int .u32 (a:Int),.int .i64 n] 36)).alloc (Obj.cells #[.int .u32 (b:Int),.int .i64 m] 36)).heap.size:=by simp <;> omega
   have hz0:∀ o,((w.alloc (Obj.cells #[.int .u32 (a:Int),.int .i64 n] 36)).alloc (Obj.cells #[.int .u32 (b:Int),.int .i64 m] 36)).frozen? ⟨w.heap.size,o,none⟩=false:=fun o=>Y9 (by first | (simp;done) | (simp;omega)) (W0 (by first | rfl | simp) o);have hz1:∀ o,((w.alloc (Obj.cells #[.int .u32 (a:Int),.int .i64 n] 36)).alloc (Obj.cells #[.int .u32 (b:Int),.int .i64 m] 36)).frozen? ⟨w.heap.size+1,o,none⟩=false:=fun o=>W0 (by first | rfl | simp) o;generalize ((w.alloc (Obj.cells #[.int .u32 (a:Int),.int .i64 n] 36)).alloc (Obj.cells #[.int .u32 (b:Int),.int .i64 m] 36))=w0 at *;have hB:Below w0.heap.size w0 w0:=Below.refl _ _
   go_wp2_with (first | (go_at_call 58;(with_reducible refine (ZY _ _ _ _ hb' hq).mono ?_);rintro e w1 ⟨rfl,hb⟩;have hB:=Zk hB hb;have hc:=(Qc7 hB).1))
   go_ret
   exact ⟨VH E.out.symm,hw.trans (hB.mono hw.size)⟩
 ·have E:=Lib.hid (show YY a n b m=false by unfold YY;simp [hv]);rcases QdS hv with h | h
  all_goals
   have hq:=Lib.hid h;clear hv h
   go_enter Tryz.func60,Tryz.ntmps60
   go_wp2_with (fail)
   have hw:Below w.heap.size w ((w.alloc (Obj.cells #[.int .u32 (a:Int),.int .i64 n] 36)).alloc (Obj.cells #[.int .u32 (b:Int),.int .i64 m] 36)):=((((Below.refl w.heap.size w).alloc (by first | exact Qxo _ | (simp;done) | (simp;omega)) _)).alloc (by first | exact Qxo _ | (simp;done) | (simp;omega)) _);have hc0_0:((w.alloc (Obj.cells #[.int .u32 (a:Int),.int .i64 n] 36)).alloc (Obj.cells #[.int .u32 (b:Int),.int .i64 m] 36)).cell? ⟨w.heap.size,0,none⟩=some (.int .u32 (a:Int)):=Wg (QE (by first | rfl | simp) 0 rfl);have hc0_1:((w.alloc (Obj.cells #[.int .u32 (a:Int),.int .i64 n] 36)).alloc (Obj.cells #[.int .u32 (b:Int),.int .i64 m] 36)).cell? ⟨w.heap.size,1,none⟩=some (.int .i64 n):=Wg (QE (by first | rfl | simp) 1 rfl);have hc1_0:((w.alloc (Obj.cells #[.int .u32 (a:Int),.int .i64 n] 36)).alloc (Obj.cells #[.int .u32 (b:Int),.int .i64 m] 36)).cell? ⟨w.heap.size+1,0,none⟩=some (.int .u32 (b:Int)):=QE (by first | rfl | simp) 0 rfl;have hc1_1:((w.alloc (Obj.cells #[.int .u32 (a:Int),.int .i64 n] 36)).alloc (Obj.cells #[.int .u32 (b:Int),.int .i64 m] 36)).cell? ⟨w.heap.size+1,1,none⟩=some (.int .i64 m):=QE (by first | rfl | simp) 1 rfl;have hs0:w.heap.size < ((w.alloc (Obj.cells #[.int .u32 (a:Int),.int .i64 n] 36)).alloc (Obj.cells #[.int .u32 (b:Int),.int .i64 m] 36)).heap.size:=by simp <;> omega
   have hs1:w.heap.size+1 < ((w.alloc (Obj.cells #[.int .u32 (a:Int),.int .i64 n] 36)).alloc (Obj.cells #[.int .u32 (b:Int),.int .i64 m] 36)).heap.size:=by simp <;> omega
   have hz0:∀ o,((w.alloc (Obj.cells #[.int .u32 (a:Int),.int .i64 n] 36)).alloc (Obj.cells #[.int .u32 (b:Int),.int .i64 m] 36)).frozen? ⟨w.heap.size,o,none⟩=false:=fun o=>Y9 (by first | (simp;done) | (simp;omega)) (W0 (by first | rfl | simp) o);have hz1:∀ o,((w.alloc (Obj.cells #[.int .u32 (a:Int),.int .i64 n] 36)).alloc (Obj.cells #[.int .u32 (b:Int),.int .i64 m] 36)).frozen? ⟨w.heap.size+1,o,none⟩=false:=fun o=>W0 (by first | rfl | simp) o;generalize ((w.alloc (Obj.cells #[.int .u32 (a:Int),.int .i64 n] 36)).alloc (Obj.cells #[.int .u32 (b:Int),.int .i64 m] 36))=w0 at *;have hB:Below w0.heap.size w0 w0:=Below.refl _ _
   go_wp2_with (first | (go_at_call 58;(with_reducible refine (ZY _ _ _ _ hb' hq).mono ?_);rintro e w1 ⟨rfl,hb⟩;have hB:=Zk hB hb;have hc:=(Qc7 hB).1))
   go_ret
   exact ⟨VH E.out.symm,hw.trans (hB.mono hw.size)⟩
theorem Qqy (a:Nat) (n:Int) (b:Nat) (m:Int) (r:Bool) (w:World) (ha:a < 4294967296) (hb':b < 4294967296) (h:Hid (YY a n b m=r)) :
  Calls Tryz.prog 60 #[Y5 a n,Y5 b m] w fun e w'=>e=.returned (.bool r)/\Below w.heap.size w w' :=
 (QnY a n b m w ha hb').mono fun _ _ ⟨h1,h2⟩=>⟨by rw [h1,h.out],h2⟩
end
section
theorem QkD {a:Nat} {n:Int} {b:Nat} {m:Int}:YY a n b m=true↔Zm b m/\n<=m/\Zm a n/\Zl b n.toNat=a:=by
 unfold YY Qir;simp
end
section
abbrev QiG (n:Int):Prop:=-9223372036854775808<=n/\n<=9223372036854775807
def pk (n m:Int):Int:=(bif decide (n < 0) then -(n+1) else n) % m
theorem QdW (n:Int) {m:Int} (h:0 < m):0<=pk n m:=Int.emod_nonneg _ (by omega)
theorem Qb9 (n:Int) {m:Int} (h:0 < m):pk n m < m:=Int.emod_lt_of_pos _ h
def trn (l:List UInt8) (at_:Int) (y:UInt8):List UInt8 :=
 bif decide ((0:Int) < (l.length:Int)) then l.set (pk at_ l.length).toNat (l.getD (pk at_ l.length).toNat 0 ^^^ (if y < 1 then 1 else y)) else l
def dig8:List UInt8:=[50,51,52,53,54,55,56,57]
def Wy (j:Nat):List UInt8:=Go.Lib.repeatL [49,dig8.getD j 0] 32
def QgJ (n:Int):List UInt8:=Wy (pk n 8).toNat
theorem Qwq (n:Int):∃ j,j < 8/\QgJ n=Wy j/\pk n 8=(j:Int):=by
 have h1:=QdW n (m:=8) (by decide);have h2:=Qb9 n (m:=8) (by decide);exact ⟨(pk n 8).toNat,by omega,rfl,by omega⟩
theorem QaS:∀ j,j < 8->ZX (Wy j)=0:=by decide +kernel
theorem Que (n:Int):Go.Lib.repeatL ([49]++(dig8.drop (pk n 8).toNat).take ((pk n 8+1).toNat - (pk n 8).toNat)) 32=QgJ n:=by
 obtain ⟨j,h,e,h2⟩:=Qwq n;unfold QgJ Wy;rw [h2];have e2:((j:Int)+1).toNat - ((j:Int)).toNat=1:=by omega
 rw [e2,Int.toNat_natCast]
 have e3:(dig8.drop j).take 1=[dig8.getD j 0]:=by
  have hl:j < dig8.length:=h;rw [List.drop_eq_getElem_cons hl,Qxt,List.getElem?_eq_getElem hl];rfl
 rw [e3];rfl
attribute [irreducible] QgJ Wy trn
end
section
open Go.Lib
def isD (c:UInt8):Bool:=decide (48<=c.toNat) && decide (c.toNat<=57)
def QM (n:Nat) (l:List UInt8):Nat:=l.foldl (fun n c=>10 * n+(c.toNat - 48)) n
theorem XY (n:Nat):QM n []=n:=List.foldl_nil
theorem YN (n:Nat) (c:UInt8) (l:List UInt8):QM n (c::l)=QM (10 * n+(c.toNat - 48)) l:=List.foldl_cons ..
def Vw (s:List UInt8):Prop:=1<=s.length/\s.length<=5/\(1 < s.length->s.getD 0 0≠48)/\s.all isD=true
instance (s:List UInt8):Decidable (Vw s):=by unfold Vw;infer_instance
theorem QiO (n:Nat) (a b:List UInt8):QM n (a++b)=QM (QM n a) b:=List.foldl_append
theorem Xn {k:Nat} (h:k < 10):(Qxs (48+k)).toNat=48+k:=by
 show (48+k) % 2 ^ 8=_;exact Nat.mod_eq_of_lt (by omega)
theorem Qfr {k:Nat} (h:k < 10):isD (Qxs (48+k))=true:=by
 unfold isD;rw [Xn h,decide_eq_true (by omega),decide_eq_true (by omega)];rfl
theorem QcE (u:Nat):(decDigits u).all isD=true:=by
 induction u using Qxw with
 | _ u ih =>
  by_cases h:u < 10
  ·rw [decDigits_one h,Qxq,Qfr h];rfl
  ·rw [decDigits,dif_neg h,List.all_append,ih (u / 10) (by omega),Qxq,Qfr (Qxp u (by decide:0 < 10))];rfl
theorem Jo (u:Nat):QM 0 (decDigits u)=u:=by
 induction u using Qxw with
 | _ u ih =>
  by_cases h:u < 10
  ·rw [decDigits_one h,YN,XY,Xn h];omega
  ·rw [decDigits,dif_neg h,QiO,ih (u / 10) (by omega),YN,XY,Xn (Qxp u (by decide))];omega
theorem QqV (u:Nat):decDigits u≠[]:=by
 rw [decDigits];split
 ·simp
 ·simp
theorem QqW:∀ {u:Nat},10<=u->(decDigits u).getD 0 0≠48:=by
 intro u
 induction u using Qxw with
 | _ u ih =>
  intro hu;rw [decDigits,dif_neg (by omega)];by_cases h:u / 10 < 10
  ·rw [decDigits_one h];show Qxs (48+u / 10)≠48;intro e;have:=congrArg UInt8.toNat e;rw [Xn h] at this;have h48:(48:UInt8).toNat=48:=rfl;omega
  ·have:=ih (u / 10) (by omega) (by omega)
   obtain ⟨a,l,e⟩:∃ a l,decDigits (u / 10)=a::l:=by
    cases q:decDigits (u / 10) with
    | nil=>exact absurd q (QqV _)
    | cons a l=>exact ⟨a,l,rfl⟩
   rw [e] at this ⊢;exact this
theorem Jp {u:Nat} (h:u < 100000):(decDigits u).length<=5:=by
 rw [decDigits_length];by_cases h1:u < 10
 ·rw [nDigits_small h1];decide
 by_cases h2:u < 100
 ·rw [nDigits_unique 1 u (by omega) (by omega)];decide
 by_cases h3:u < 1000
 ·rw [nDigits_unique 2 u (by omega) (by omega)];decide
 by_cases h4:u < 10000
 ·rw [nDigits_unique 3 u (by omega) (by omega)];decide
 ·rw [nDigits_unique 4 u (by omega) (by omega)];decide
theorem QqX {u:Nat} (h:u < 100000):Vw (decDigits u):=by
 refine ⟨?_,Jp h,fun h1=>?_,QcE u⟩
 ·cases q:decDigits u with
  | nil=>exact absurd q (QqV _)
  | cons a l=>simp
 ·rcases Nat.lt_or_ge u 10 with k | k
  ·rw [decDigits_one k] at h1;simp at h1
  ·exact QqW k
theorem QgP {c:UInt8} (h:isD c=true):Qxs (48+(c.toNat - 48))=c/\c.toNat - 48 < 10:=by
 unfold isD at h;rw [Qxr,decide_eq_true_eq,decide_eq_true_eq] at h;refine ⟨?_,by omega⟩;rw [show 48+(c.toNat - 48)=c.toNat from by omega];exact UInt8.ofNat_toNat
theorem QqY {m d:Nat} (hm:m≠0) (hd:d < 10):decDigits (10 * m+d)=decDigits m++[Qxs (48+d)]:=by
 rw [decDigits,dif_neg (by omega),show (10 * m+d) / 10=m from by omega,show (10 * m+d) % 10=d from by omega]
theorem Qwy (l:List UInt8):∀ (m:Nat),m≠0->l.all isD=true->decDigits (QM m l)=decDigits m++l:=by
 induction l with
 | nil=>intro m _ _;rw [List.append_nil,XY]
 | cons c l ih =>
  intro m hm h;rw [Qxq,Qxr] at h;obtain ⟨e,k⟩:=QgP h.1;rw [YN,ih _ (by omega) h.2,QqY hm k,e,List.append_assoc];rfl
theorem V6 {s:List UInt8} (h:Vw s):decDigits (QM 0 s)=s:=by
 obtain ⟨h1,h2,h3,h4⟩:=h
 cases s with
 | nil=>simp at h1
 | cons c l =>
  rw [Qxq,Qxr] at h4;obtain ⟨e,k⟩:=QgP h4.1;rw [YN]
  cases l with
  | nil =>
   rw [XY,show 10 * 0+(c.toNat - 48)=c.toNat - 48 from by omega,decDigits_one k,e]
  | cons d l =>
   have hc:c.toNat - 48≠0:=fun q=>by
    refine h3 (by simp) ?_;show c=48;rw [q] at e;rw [<- e];rfl
   rw [Qwy _ _ (by omega) h4.2,show 10 * 0+(c.toNat - 48)=c.toNat - 48 from by omega,decDigits_one k,e];rfl
theorem QmG (l:List UInt8):∀ (n:Nat),l.all isD=true->QM n l < (n+1) * 10 ^ l.length:=by
 induction l with
 | nil=>intro n _;rw [XY,List.length_nil,Nat.pow_zero];omega
 | cons c l ih =>
  intro n h;rw [Qxq,Qxr] at h;have k:=(QgP h.1).2;have:=ih (10 * n+(c.toNat - 48)) h.2;rw [YN,List.length_cons,Nat.pow_succ];have h2:(10 * n+(c.toNat - 48)+1) * 10 ^ l.length<=((n+1) * 10) * 10 ^ l.length:=Nat.mul_le_mul_right _ (by omega)
  calc _ < _:=this
   _<=_:=h2
   _=_:=by rw [Nat.mul_assoc,Nat.mul_comm 10]
theorem QqZ {s:List UInt8} (h:Vw s):QM 0 s < 100000:=by
 have a:=QmG s 0 h.2.2.2;have b:10 ^ s.length<=10 ^ 5:=Nat.pow_le_pow_right (by decide) h.2.1;omega
def smE (s:List UInt8) (most:Int):Bool:=if Vw s then decide ((QM 0 s:Int)<=most) else false
def smN (s:List UInt8):Int:=if Vw s then (QM 0 s:Int) else 0
theorem JK {s:List UInt8} {most:Int} (h:smE s most=true):Vw s/\smN s=(QM 0 s:Int)/\(QM 0 s:Int)<=most:=by
 unfold smE at h;split at h
 ·rename_i k;exact ⟨k,by unfold smN;rw [if_pos k],by simpa using h⟩
 ·cases h
theorem QgQ {u:Nat} {most:Int} (h:u < 100000) (h2:(u:Int)<=most):smE (decDigits u) most=true/\smN (decDigits u)=(u:Int):=by
 unfold smE smN;rw [if_pos (QqX h),if_pos (QqX h),Jo];exact ⟨by simpa using h2,rfl⟩
def Y1 (a:Nat):List UInt8:=join [decDigits (a / 16777216 % 256),decDigits (a / 65536 % 256),decDigits (a / 256 % 256),decDigits (a % 256)] [46]
theorem Qwz {u:Nat}:(46:UInt8) ∉ decDigits u:=QaW (QcE u) (by decide)
theorem Qq0 (a:Nat):spl 46 (Y1 a)=[decDigits (a / 16777216 % 256),decDigits (a / 65536 % 256),decDigits (a / 256 % 256),decDigits (a % 256)] :=
 Qd5 (by simp) fun x hx=>by
  simp only [List.mem_cons,List.not_mem_nil,or_false] at hx;rcases hx with rfl | rfl | rfl | rfl <;> exact Qwz
def Zt (s:List UInt8):Nat×Int :=
 match spl 46 s with
 | [a,b,c,d]=>if smE a 255=true/\smE b 255=true/\smE c 255=true/\smE d 255=true then (((QM 0 a * 256+QM 0 b) * 256+QM 0 c) * 256+QM 0 d,0) else (0,3)
 | _=>(0,3)
theorem Qq1 (a:Nat) (h:a < 4294967296):Zt (Y1 a)=(a,0):=by
 unfold Zt;rw [Qq0];have k:∀ u,u < 256->smE (decDigits u) 255=true:=fun u hu=>(QgQ (by omega) (by omega)).1;show (if _ then _ else _)=_;rw [if_pos ⟨k _ (Qxp _ (by decide)),k _ (Qxp _ (by decide)),k _ (Qxp _ (by decide)),k _ (Qxp _ (by decide))⟩,Jo,Jo,Jo,Jo];refine Prod.ext ?_ rfl;show ((a / 16777216 % 256 * 256+a / 65536 % 256) * 256+a / 256 % 256) * 256+a % 256=a;omega
theorem Qfs {s:List UInt8} (h:(Zt s).2=0):Y1 (Zt s).1=s/\(Zt s).1 < 4294967296:=by
 unfold Zt at h ⊢;split at h
 ·rename_i a b c d e
  split at h
  ·rename_i k
   rw [if_pos k];obtain ⟨ka,kb,kc,kd⟩:=k;have ka:=JK ka;have kb:=JK kb;have kc:=JK kc;have kd:=JK kd;have ha:=ka.2.2;have hb:=kb.2.2;have hc:=kc.2.2;have hd:=kd.2.2;refine ⟨?_,by show ((QM 0 a * 256+QM 0 b) * 256+QM 0 c) * 256+QM 0 d < _;omega⟩;show Y1 (((QM 0 a * 256+QM 0 b) * 256+QM 0 c) * 256+QM 0 d)=s;unfold Y1
   rw [show (((QM 0 a * 256+QM 0 b) * 256+QM 0 c) * 256+QM 0 d) / 16777216 % 256=QM 0 a from by omega,
    show (((QM 0 a * 256+QM 0 b) * 256+QM 0 c) * 256+QM 0 d) / 65536 % 256=QM 0 b from by omega,
    show (((QM 0 a * 256+QM 0 b) * 256+QM 0 c) * 256+QM 0 d) / 256 % 256=QM 0 c from by omega,
    show (((QM 0 a * 256+QM 0 b) * 256+QM 0 c) * 256+QM 0 d) % 256=QM 0 d from by omega,
    V6 ka.1,V6 kb.1,V6 kc.1,V6 kd.1,<- e,Qd4]
  ·cases h
 ·cases h
theorem V7 (a:Nat):(Y1 a).length<=15:=by
 have k:∀ u,u < 256->(decDigits u).length<=3:=fun u hu=>by
  rw [decDigits_length];by_cases h1:u < 10
  ·rw [nDigits_small h1];decide
  by_cases h2:u < 100
  ·rw [nDigits_unique 1 u (by omega) (by omega)];decide
  ·rw [nDigits_unique 2 u (by omega) (by omega)];decide
 have:=k _ (Qxp (a / 16777216) (by decide:0 < 256));have:=k _ (Qxp (a / 65536) (by decide:0 < 256));have:=k _ (Qxp (a / 256) (by decide:0 < 256));have:=k _ (Qxp a (by decide:0 < 256));unfold Y1;rw [Wl,Wl,Wl,join_one];simp only [List.length_append,List.length_cons,List.length_nil];omega
end
end Go.Proofs.YtcebndkiagbddaaGreatDoor
