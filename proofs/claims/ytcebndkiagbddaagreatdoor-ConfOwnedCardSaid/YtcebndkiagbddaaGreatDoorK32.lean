/- A part of the proof: contracts of functions and what they stand on. Written shorter and merged by a program (pack.py). -/
import Derived.Test.YtcebndkiagbddaaGreatDoorK28
set_option linter.unusedVariables false
set_option linter.unusedSimpArgs false
set_option maxRecDepth 100000
set_option maxHeartbeats 4000000
namespace Go.Proofs.YtcebndkiagbddaaGreatDoor
section
open Go.RowKit Tr
theorem Xl {p q:List Bool} (hp:p.length<=32) (hne:p≠q):(decide (adr p=adr q) && decide ((p.length:Int)=(q.length:Int)))=false:=by
 cases h:(decide (adr p=adr q) && decide ((p.length:Int)=(q.length:Int))) with
 | false=>rfl
 | true =>
  rw [Bool.and_eq_true,decide_eq_true_eq,decide_eq_true_eq] at h;exact absurd (QgA (by omega) hp h.1) hne
theorem QkM {n:List Bool} {o:List UInt8}:Cf Tryz.prog 100 [] [.v (.pointer none),We n,.s o] [] (.rp (Tr.node n o .nil .nil).c):=by
 refine QJ {} Tryz.func100 Tryz.ntmps100 ?_;refine ⟨fun h1=>?_,fun h1=>?_⟩
 ·skip
  (simp only [Int.reduceToNat,UInt8.reduceOfNat] at h1)
  have c1:=h1
  repeat refine o0 ?_
  trivial
 ·skip
  have c1:=h1;exact absurd (show true=false from h1) (by decide)
theorem Qn7 {n:List Bool} {x o:List UInt8} {l r:Tr}:Cf Tryz.prog 100 [] [Yq n x l r,We n,.s o] [] (.rp (Tr.node n o l r).c):=by
 refine QJ {} Tryz.func100 Tryz.ntmps100 ?_;refine ⟨fun h1=>?_,fun h1=>?_⟩
 ·skip
  have c1:=h1;exact absurd (show false=true from h1) (by decide)
 ·skip
  (simp only [Int.reduceToNat,UInt8.reduceOfNat] at h1)
  have c1:=h1;refine ⟨[0,1,3,7,0,31,63],by kernel_rfl,?_⟩;refine ⟨fun h2=>?_,fun h2=>?_⟩
  ·skip
   (simp only [Int.reduceToNat,UInt8.reduceOfNat] at h2)
   have c2:=h2
   (simp only [bsX] at c2)
   refine ⟨[0,0,0,4,12,28,63,127,255],by kernel_rfl,?_⟩
   repeat refine o0 ?_
   trivial
  ·skip
   (simp only [Int.reduceToNat,UInt8.reduceOfNat] at h2)
   have c2:=h2
   (simp only [bsX] at c2)
   exact absurd h2 (by simp)
theorem QiC {p n:List Bool} {x o:List UInt8} {l r:Tr} (hp:p.length<=32) (hn:n.length<=32) {m:Tr} (hb:p++[false] <+: n) (ih:Cf Tryz.prog 100 [] [.rp l.c,We n,.s o] [] (.rp m.c)):Cf Tryz.prog 100 [] [Yq p x l r,We n,.s o] [] (.rp (Tr.node p x m r).c):=by
 have hne:p≠n:=Xv hb;have hl:p.length < 32:=by have:=hb.length_le;simp at this;omega
 have hd:decide (p <+: n)=true:=decide_eq_true (YZ hb);refine QJ {} Tryz.func100 Tryz.ntmps100 ?_;refine ⟨fun h1=>?_,fun h1=>?_⟩
 ·skip
  have c1:=h1;exact absurd (show false=true from h1) (by decide)
 ·skip
  (simp only [Int.reduceToNat,UInt8.reduceOfNat] at h1)
  have c1:=h1;refine ⟨[0,1,3,7,0,31,63],by kernel_rfl,?_⟩;refine ⟨fun h2=>?_,fun h2=>?_⟩
  ·skip
   have c2:=h2
   (simp only [bsX] at c2)
   exact absurd (Xl hp hne) (by rw [h2];decide)
  ·skip
   have c2:=h2
   (simp only [bsX] at c2)
   refine ⟨[0,1,3,7,0,31,63],by kernel_rfl,?_⟩;refine clX (hd ▸ WB hp hn) ?_
   repeat refine o0 ?_
   refine ⟨fun h3=>?_,fun h3=>?_⟩
   ·skip
    (simp only [Int.reduceToNat,UInt8.reduceOfNat] at h3)
    have c3:=h3;refine ⟨[0,1,3,7,0,31,63],by kernel_rfl,?_⟩;refine clX (Zg hl (Yw hb)) ?_
    repeat refine o0 ?_
    refine ⟨[0,0,0,2,10,30,62,0,0,510,0,2047,4095],by kernel_rfl,?_⟩
    repeat refine o24 ?_
    refine clX ih ?_
    repeat refine o14 ?_
    trivial
   ·skip
    have c3:=h3;exact absurd (show true=false from h3) (by decide)
theorem QiD {p n:List Bool} {x o:List UInt8} {l r:Tr} (hp:p.length<=32) (hn:n.length<=32) (hb:n++[false] <+: p):Cf Tryz.prog 100 [] [Yq p x l r,We n,.s o] [] (.rp (Tr.node n o (.node p x l r) .nil).c):=by
 have hne:p≠n:=fun e=>Xv hb e.symm;have hl:n.length < 32:=by have:=hb.length_le;simp at this;omega
 have hd:decide (p <+: n)=false:=decide_eq_false (fun h=>hne (QaN h (YZ hb)));have he:decide (n <+: p)=true:=decide_eq_true (YZ hb);refine QJ {} Tryz.func100 Tryz.ntmps100 ?_;refine ⟨fun h1=>?_,fun h1=>?_⟩
 ·skip
  have c1:=h1;exact absurd (show false=true from h1) (by decide)
 ·skip
  (simp only [Int.reduceToNat,UInt8.reduceOfNat] at h1)
  have c1:=h1;refine ⟨[0,1,3,7,0,31,63],by kernel_rfl,?_⟩;refine ⟨fun h2=>?_,fun h2=>?_⟩
  ·skip
   have c2:=h2
   (simp only [bsX] at c2)
   exact absurd (Xl hp hne) (by rw [h2];decide)
  ·skip
   have c2:=h2
   (simp only [bsX] at c2)
   refine ⟨[0,1,3,7,0,31,63],by kernel_rfl,?_⟩;refine clX (hd ▸ WB hp hn) ?_
   repeat refine o0 ?_
   refine ⟨fun h3=>?_,fun h3=>?_⟩
   ·skip
    have c3:=h3;exact absurd (show false=true from h3) (by decide)
   ·skip
    (simp only [Int.reduceToNat,UInt8.reduceOfNat] at h3)
    have c3:=h3;refine ⟨[0,0,2,6,14,31,63],by kernel_rfl,?_⟩;refine clX (he ▸ WB hn hp) ?_
    repeat refine o0 ?_
    refine ⟨fun h4=>?_,fun h4=>?_⟩
    ·skip
     (simp only [Int.reduceToNat,UInt8.reduceOfNat] at h4)
     have c4:=h4;refine ⟨[0,0,0,4,12,28,62,0,1,257,1023,2047],by kernel_rfl,?_⟩;refine clX (Zg hl (Yw hb)) ?_
     repeat refine o14 ?_
     trivial
    ·skip
     have c4:=h4;exact absurd (show true=false from h4) (by decide)
theorem QgH {p n:List Bool} {x o:List UInt8} {l r:Tr} (hp:p.length<=32) (hn:n.length<=32) (h1:¬ p <+: n) (h2:¬ n <+: p) (hb:Wr p n++[false] <+: n):Cf Tryz.prog 100 [] [Yq p x l r,We n,.s o] [] (.rp (Tr.node (Wr p n) [] (.node n o .nil .nil) (.node p x l r)).c):=by
 have hne:p≠n:=fun e=>h1 (e ▸ List.prefix_refl p);have hl:(Wr p n).length < 32:=by have:=hb.length_le;simp at this;omega
 have hd:decide (p <+: n)=false:=decide_eq_false h1;have he:decide (n <+: p)=false:=decide_eq_false h2;refine QJ {} Tryz.func100 Tryz.ntmps100 ?_;refine ⟨fun h1=>?_,fun h1=>?_⟩
 ·skip
  have c1:=h1;exact absurd (show false=true from h1) (by decide)
 ·skip
  (simp only [Int.reduceToNat,UInt8.reduceOfNat] at h1)
  have c1:=h1;refine ⟨[0,1,3,7,0,31,63],by kernel_rfl,?_⟩;refine ⟨fun h2=>?_,fun h2=>?_⟩
  ·skip
   have c2:=h2
   (simp only [bsX] at c2)
   exact absurd (Xl hp hne) (by rw [h2];decide)
  ·skip
   have c2:=h2
   (simp only [bsX] at c2)
   refine ⟨[0,1,3,7,0,31,63],by kernel_rfl,?_⟩;refine clX (hd ▸ WB hp hn) ?_
   repeat refine o0 ?_
   refine ⟨fun h3=>?_,fun h3=>?_⟩
   ·skip
    have c3:=h3;exact absurd (show false=true from h3) (by decide)
   ·skip
    (simp only [Int.reduceToNat,UInt8.reduceOfNat] at h3)
    have c3:=h3;refine ⟨[0,0,2,6,14,31,63],by kernel_rfl,?_⟩;refine clX (he ▸ WB hn hp) ?_
    repeat refine o0 ?_
    refine ⟨fun h4=>?_,fun h4=>?_⟩
    ·skip
     have c4:=h4;exact absurd (show false=true from h4) (by decide)
    ·skip
     (simp only [Int.reduceToNat,UInt8.reduceOfNat] at h4)
     have c4:=h4;refine ⟨[0,0,2,6,14,0,62,126,254,254,511,1535,3583],by kernel_rfl,?_⟩;refine clX (Qiy hp hn) ?_
     repeat refine o0 ?_
     refine ⟨[0,1,3,7,0,31,63],by kernel_rfl,?_⟩;refine clX (Zg hl (Yw hb)) ?_
     repeat refine o0 ?_
     refine ⟨[0,0,0,0,8,0,0,1,129,419,931,4,2052,8191,16383],by kernel_rfl,?_⟩
     repeat refine o14 ?_
     trivial
theorem QiE {p n:List Bool} {x o:List UInt8} {l r:Tr} (hp:p.length<=32) (hn:n.length<=32) {m:Tr} (hb:p++[true] <+: n) (ih:Cf Tryz.prog 100 [] [.rp r.c,We n,.s o] [] (.rp m.c)):Cf Tryz.prog 100 [] [Yq p x l r,We n,.s o] [] (.rp (Tr.node p x l m).c):=by
 have hne:p≠n:=Xv hb;have hl:p.length < 32:=by have:=hb.length_le;simp at this;omega
 have hd:decide (p <+: n)=true:=decide_eq_true (YZ hb);refine QJ {} Tryz.func100 Tryz.ntmps100 ?_;refine ⟨fun h1=>?_,fun h1=>?_⟩
 ·skip
  have c1:=h1;exact absurd (show false=true from h1) (by decide)
 ·skip
  (simp only [Int.reduceToNat,UInt8.reduceOfNat] at h1)
  have c1:=h1;refine ⟨[0,1,3,7,0,31,63],by kernel_rfl,?_⟩;refine ⟨fun h2=>?_,fun h2=>?_⟩
  ·skip
   have c2:=h2
   (simp only [bsX] at c2)
   exact absurd (Xl hp hne) (by rw [h2];decide)
  ·skip
   have c2:=h2
   (simp only [bsX] at c2)
   refine ⟨[0,1,3,7,0,31,63],by kernel_rfl,?_⟩;refine clX (hd ▸ WB hp hn) ?_
   repeat refine o0 ?_
   refine ⟨fun h3=>?_,fun h3=>?_⟩
   ·skip
    (simp only [Int.reduceToNat,UInt8.reduceOfNat] at h3)
    have c3:=h3;refine ⟨[0,1,3,7,0,31,63],by kernel_rfl,?_⟩;refine clX (Zg hl (Yw hb)) ?_
    repeat refine o0 ?_
    refine ⟨[0,0,0,2,10,30,62,0,0,510,0,2047,4095],by kernel_rfl,?_⟩
    repeat refine o24 ?_
    refine clX ih ?_
    repeat refine o14 ?_
    trivial
   ·skip
    have c3:=h3;exact absurd (show true=false from h3) (by decide)
theorem QiF {p n:List Bool} {x o:List UInt8} {l r:Tr} (hp:p.length<=32) (hn:n.length<=32) (hb:n++[true] <+: p):Cf Tryz.prog 100 [] [Yq p x l r,We n,.s o] [] (.rp (Tr.node n o .nil (.node p x l r)).c):=by
 have hne:p≠n:=fun e=>Xv hb e.symm;have hl:n.length < 32:=by have:=hb.length_le;simp at this;omega
 have hd:decide (p <+: n)=false:=decide_eq_false (fun h=>hne (QaN h (YZ hb)));have he:decide (n <+: p)=true:=decide_eq_true (YZ hb);refine QJ {} Tryz.func100 Tryz.ntmps100 ?_;refine ⟨fun h1=>?_,fun h1=>?_⟩
 ·skip
  have c1:=h1;exact absurd (show false=true from h1) (by decide)
 ·skip
  (simp only [Int.reduceToNat,UInt8.reduceOfNat] at h1)
  have c1:=h1;refine ⟨[0,1,3,7,0,31,63],by kernel_rfl,?_⟩;refine ⟨fun h2=>?_,fun h2=>?_⟩
  ·skip
   have c2:=h2
   (simp only [bsX] at c2)
   exact absurd (Xl hp hne) (by rw [h2];decide)
  ·skip
   have c2:=h2
   (simp only [bsX] at c2)
   refine ⟨[0,1,3,7,0,31,63],by kernel_rfl,?_⟩;refine clX (hd ▸ WB hp hn) ?_
   repeat refine o0 ?_
   refine ⟨fun h3=>?_,fun h3=>?_⟩
   ·skip
    have c3:=h3;exact absurd (show false=true from h3) (by decide)
   ·skip
    (simp only [Int.reduceToNat,UInt8.reduceOfNat] at h3)
    have c3:=h3;refine ⟨[0,0,2,6,14,31,63],by kernel_rfl,?_⟩;refine clX (he ▸ WB hn hp) ?_
    repeat refine o0 ?_
    refine ⟨fun h4=>?_,fun h4=>?_⟩
    ·skip
     (simp only [Int.reduceToNat,UInt8.reduceOfNat] at h4)
     have c4:=h4;refine ⟨[0,0,0,4,12,28,62,0,1,257,1023,2047],by kernel_rfl,?_⟩;refine clX (Zg hl (Yw hb)) ?_
     repeat refine o14 ?_
     trivial
    ·skip
     have c4:=h4;exact absurd (show true=false from h4) (by decide)
theorem QgI {p n:List Bool} {x o:List UInt8} {l r:Tr} (hp:p.length<=32) (hn:n.length<=32) (h1:¬ p <+: n) (h2:¬ n <+: p) (hb:Wr p n++[true] <+: n):Cf Tryz.prog 100 [] [Yq p x l r,We n,.s o] [] (.rp (Tr.node (Wr p n) [] (.node p x l r) (.node n o .nil .nil)).c):=by
 have hne:p≠n:=fun e=>h1 (e ▸ List.prefix_refl p);have hl:(Wr p n).length < 32:=by have:=hb.length_le;simp at this;omega
 have hd:decide (p <+: n)=false:=decide_eq_false h1;have he:decide (n <+: p)=false:=decide_eq_false h2;refine QJ {} Tryz.func100 Tryz.ntmps100 ?_;refine ⟨fun h1=>?_,fun h1=>?_⟩
 ·skip
  have c1:=h1;exact absurd (show false=true from h1) (by decide)
 ·skip
  (simp only [Int.reduceToNat,UInt8.reduceOfNat] at h1)
  have c1:=h1;refine ⟨[0,1,3,7,0,31,63],by kernel_rfl,?_⟩;refine ⟨fun h2=>?_,fun h2=>?_⟩
  ·skip
   have c2:=h2
   (simp only [bsX] at c2)
   exact absurd (Xl hp hne) (by rw [h2];decide)
  ·skip
   have c2:=h2
   (simp only [bsX] at c2)
   refine ⟨[0,1,3,7,0,31,63],by kernel_rfl,?_⟩;refine clX (hd ▸ WB hp hn) ?_
   repeat refine o0 ?_
   refine ⟨fun h3=>?_,fun h3=>?_⟩
   ·skip
    have c3:=h3;exact absurd (show false=true from h3) (by decide)
   ·skip
    (simp only [Int.reduceToNat,UInt8.reduceOfNat] at h3)
    have c3:=h3;refine ⟨[0,0,2,6,14,31,63],by kernel_rfl,?_⟩;refine clX (he ▸ WB hn hp) ?_
    repeat refine o0 ?_
    refine ⟨fun h4=>?_,fun h4=>?_⟩
    ·skip
     have c4:=h4;exact absurd (show false=true from h4) (by decide)
    ·skip
     (simp only [Int.reduceToNat,UInt8.reduceOfNat] at h4)
     have c4:=h4;refine ⟨[0,0,2,6,14,0,62,126,254,254,511,1535,3583],by kernel_rfl,?_⟩;refine clX (Qiy hp hn) ?_
     repeat refine o0 ?_
     refine ⟨[0,1,3,7,0,31,63],by kernel_rfl,?_⟩;refine clX (Zg hl (Yw hb)) ?_
     repeat refine o0 ?_
     refine ⟨[0,0,0,0,8,0,0,1,129,419,931,4,2052,8191,16383],by kernel_rfl,?_⟩
     repeat refine o14 ?_
     trivial
theorem QkN:∀ {T:Tr} {n:List Bool} {o:List UInt8},T.wf->n.length<=32->Cf Tryz.prog 100 [] [.rp T.c,We n,.s o] [] (.rp (W4 T n o).c)
 | .nil,n,o,_,hn=>QkM
 | .node p x l r,n,o,w,hn=>by
  obtain ⟨hp,ul,ur,hx,wl,wr⟩:=w;unfold W4;split
  ·rename_i e;subst e;exact Qn7
  rename_i hne
  split
  ·rename_i e
   have b:=Ym e hne;cases hb:QB n p.length <;> rw [hb] at b
   ·exact QiC hp hn b (QkN wl hn)
   ·exact QiE hp hn b (QkN wr hn)
  rename_i h1
  split
  ·rename_i e
   have b:=Ym e (Ne.symm hne);cases hb:QB p n.length <;> rw [hb] at b
   ·exact QiD hp hn b
   ·exact QiF hp hn b
  ·rename_i h2
   obtain ⟨a,b,c⟩:=Qfm h1 h2;cases hb:QB n (Wr p n).length <;> rw [hb] at b
   ·exact QgH hp hn h1 h2 b
   ·exact QgI hp hn h1 h2 b
end
end Go.Proofs.YtcebndkiagbddaaGreatDoor
