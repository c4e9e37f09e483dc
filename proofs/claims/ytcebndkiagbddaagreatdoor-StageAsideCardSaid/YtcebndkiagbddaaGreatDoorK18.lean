/- A part of the proof: contracts of functions and what they stand on. Written shorter and merged by a program (pack.py). -/
import Derived.Lib.Overlaps
import Derived.Lib.AppendZerosOnto
import Derived.Laws.NewBlocks
import Derived.Laws.IdiomCopy
import Derived.Shelf.Spec.SlicesInsertGrow
import Derived.Test.YtcebndkiagbddaaGreatDoorK17
set_option linter.unusedVariables false
set_option linter.unusedSimpArgs false
set_option maxRecDepth 100000
set_option maxHeartbeats 4000000
open List renaming length_append → Qy3, length_take → Qy4, take_append_of_le_length → Qy6, append_assoc → Qzh, take_of_length_le → Qzk
open Bool renaming cond_decide → Qy5, not_false → Qy7, and_false → Qy8, false_and → Qy9, cond_not → Qzb, not_true → Qzc, and_true → Qzd, true_and → Qze, or_false → Qzf, false_or → Qzg, or_true → Qzi, true_or → Qzj
open UInt8 renaming ofNat → Qza
open Nat renaming mul_le_mul_right → Qzl
namespace Go.Proofs.YtcebndkiagbddaaGreatDoor
section
open Go.RowKit
theorem ra1 {w:World} {Pub:Nat→Nat→Prop} {φ:Qt} {x:EV} {vs:List Value} (h:RAs w Pub φ (avL [x]) vs):∃ u,vs=[u]∧RA w Pub φ x.av u:=by
 unfold avL RAs at h;obtain ⟨u,us,rfl,h1,h2⟩:=h;unfold avL RAs at h2;subst h2;exact ⟨u,rfl,h1⟩
theorem ra2 {w:World} {Pub:Nat→Nat→Prop} {φ:Qt} {x y:EV} {vs:List Value} (h:RAs w Pub φ (avL [x,y]) vs):∃ u v,vs=[u,v]∧RA w Pub φ x.av u∧RA w Pub φ y.av v:=by
 unfold avL RAs at h;obtain ⟨u,us,rfl,h1,h2⟩:=h;obtain ⟨v,rfl,h3⟩:=ra1 h2;exact ⟨u,v,rfl,h1,h3⟩
theorem Xc {w:World} {Pub:Nat→Nat→Prop} {φ:Qt} {x u:Value} (h:RA w Pub φ (EV.v x).av u):u=x:=by unfold EV.av RA RP at h;exact h
theorem Qyi {w:World} {Pub:Nat→Nat→Prop} {φ:Qt} {x:UInt8} {u:Value} (h:RA w Pub φ (EV.u8 x).av u):u=.int .u8 (x.toNat:Int):=by unfold EV.av RA b8P RP at h;exact h
theorem Qi7 {l:List UInt8} {c:UInt8}:Cf Tryz.prog 146 [] [.s l,.u8 c] [] (.i (Lib.indexByte l c)) :=
 Cf.of (by kernel_rfl) fun w Pub φ vs hp hR=>by
  obtain ⟨u,v,rfl,h1,h2⟩:=ra2 hR;have e1:=Xc h1;have e2:=Qyi h2;subst e1 e2;have e3:(((c.toNat:Nat):Int).toNat.toUInt8)=c:=by rw [Int.toNat_natCast];exact UInt8.ofNat_toNat
  refine (Tryz.strings_IndexByte _ _ _).mono fun e w' k=>?_;rw [e3] at k;exact ⟨k.1,by rw [k.2];exact Below.refl _ _⟩
theorem Qnb {x:Int} (h1:0≤x) (h2:x < 256):Qiw x=Qza x.toNat:=by
 unfold Qiw;rw [Int.emod_eq_of_lt h1 h2]
theorem Qlc {c:UInt8}:Cf Tryz.prog 146 [] [.s [48,49,50,51,52,53,54,55,56,57,97,98,99,100,101,102],.u8 c] [] (.i (W3 c)):=Qi7
theorem Qld {l:List UInt8}:Cf Tryz.prog 105 [] [.s l] [] (.tup [.bs (Qii l),.i (Qe6 l)]):=by
 refine QV {} Tryz.func105 Tryz.ntmps105 ?_;refine ⟨fun h1=>?_,fun h1=>?_⟩
 ·skip
  have c1:=h1
  (simp only [bsX] at c1)
  repeat (refine Ob.mk ?_ ?_;focus (simp only [Qii,Qe6,h1,Qy5,Qzb,cond_true,cond_false,Qzc,Qy7,Qzd,Qze,Qy8,Qy9,Qzi,Qzj,Qzf,Qzg];simp (disch:=omega) only [if_pos,if_neg];done))
  trivial
 ·skip
  have c1:=h1
  (simp only [bsX] at c1)
  repeat refine o3 ?_
  refine ⟨fun h2=>?_,fun h2=>?_⟩
  ·skip
   have c2:=h2
   (simp only [bsX] at c2)
   repeat (refine Ob.mk ?_ ?_;focus (simp only [Qii,Qe6,h1,h2,Qy5,Qzb,cond_true,cond_false,Qzc,Qy7,Qzd,Qze,Qy8,Qy9,Qzi,Qzj,Qzf,Qzg];simp (disch:=omega) only [if_pos,if_neg];done))
   trivial
  ·skip
   have c2:=h2
   (simp only [bsX] at c2)
   repeat refine o3 ?_
   refine ⟨List UInt8,fun u=>⟨[(0,.s l),(4,.osl 60 u.length),(5,.i (2 * (u.length:Int)))],[(60,.rb u 5 0)]⟩,fun u=>Wx (l.take (2 * u.length))=some u∧2 * u.length≤l.length,fun u=>l.length - 2 * u.length,[],⟨rfl,Nat.zero_le _⟩,?_,fun u hx1=>?_⟩
   ·skip
    repeat refine o32 ?_
    trivial
   refine ⟨fun h3=>?_,fun h3=>?_⟩
   ·skip
    have c3:=h3
    (simp only [bsX] at c3)
    obtain ⟨hu,hle⟩:=hx1;have hlt:2 * u.length+1 < l.length:=by omega
    have ha:=QrH hu hlt;have f1:(2 * (u.length:Int)).toNat=2 * u.length:=by omega
    have f2:(2 * (u.length:Int)+1).toNat=2 * u.length+1:=by omega
    refine ⟨[0,0,3,7,0,0,32,112,255,511,1023],by kernel_rfl,?_⟩
    repeat refine o3 ?_
    refine ⟨_,_,_,_,(@Qlc ?_),?_⟩
    rotate_left 1
    repeat refine o32 ?_
    refine ⟨_,_,_,_,(@Qlc ?_),?_⟩
    rotate_left 1
    repeat refine o29 ?_
    refine ⟨fun h4=>?_,fun h4=>?_⟩
    ·skip
     have c4:=h4
     (simp only [bsX] at c4)
     rw [f1,f2] at c4;rw [if_pos c4] at ha;have hz:=Qmk ha (by omega) (by omega);obtain ⟨z1,z2⟩:=QuR c1 (by omega) hz
     repeat refine o4 ?_
     trivial
    ·skip
     have c4:=h4
     (simp only [bsX] at c4)
     rw [f1,f2] at c4;have b1:=Qey (l.getD (2 * u.length) 0);have b2:=Qey (l.getD (2 * u.length+1) 0);rw [if_neg (fun h=>h.elim c4.1 c4.2)] at ha
     repeat (refine Ob.mk ?_ ?_;focus (first | (rw [f1,f2];exact Eq.refl _) | (exact Eq.refl _) | omega | (simp only [SrcE.len,Nat.zero_add,Qy3,List.length_cons,List.length_nil];omega) | (simp_all [Qii,Qe6];omega)))
     have hnx:∀ x:UInt8,2 * (u++[x]).length=2 * u.length+2:=fun x=>by simp;omega
     have hny:Wx (l.take (2 * (u++[Qza (16 * W3 (l.getD (2 * u.length) 0)+W3 (l.getD (2 * u.length+1) 0)).toNat]).length))=some (u++[Qza (16 * W3 (l.getD (2 * u.length) 0)+W3 (l.getD (2 * u.length+1) 0)).toNat])∧2 * (u++[Qza (16 * W3 (l.getD (2 * u.length) 0)+W3 (l.getD (2 * u.length+1) 0)).toNat]).length≤l.length:=by rw [hnx];exact ⟨ha,by omega⟩
     refine Ql (u++[Qza (16 * W3 (l.getD (2 * u.length) 0)+W3 (l.getD (2 * u.length+1) 0)).toNat]) ?_
     repeat (refine Ob.mk ?_ ?_;focus (first | (rw [f1,f2,Qnb (by omega) (by omega)];done) | (exact Eq.refl _) | (exact Nat.le_of_ble_eq_true rfl) | (simp only [SrcE.len,Nat.zero_add,Qy3,List.length_cons,List.length_nil];first | done | omega)))
     trivial
   ·skip
    have c3:=h3
    (simp only [bsX] at c3)
    obtain ⟨hu,hle⟩:=hx1;have he:2 * u.length=l.length:=by omega
    rw [Qzk (by omega)] at hu;obtain ⟨z1,z2⟩:=QrG c1 (by omega) hu
    repeat (refine Ob.mk ?_ ?_;focus (first | (exact Eq.refl _) | omega | (simp_all [Qii,Qe6];done)))
    trivial
theorem VG {l:List UInt8}:Cf Tryz.prog 62 [] [.s l] [] (.i (WA l)):=by
 refine Qs {} Tryz.func62 Tryz.ntmps62 ?_;refine ⟨fun h1=>?_,fun h1=>?_⟩
 ·skip
  have c1:=h1
  (simp only [bsX] at c1)
  repeat (refine Ob.mk ?_ ?_;focus (simp only [WA,h1,Qy5,Qzb,cond_true,cond_false,Qzc,Qy7,Qzd,Qze,Qy8,Qy9,Qzi,Qzj,Qzf,Qzg];simp (disch:=omega) only [if_pos,if_neg];done))
  trivial
 ·skip
  have c1:=h1
  (simp only [bsX] at c1)
  refine ⟨_,_,_,_,(@Qld ?_),?_⟩
  rotate_left 1
  repeat (refine Ob.mk ?_ ?_;focus (first | (exact Eq.refl _) | (simp only [WA,h1,Qy5,Qzb,cond_true,cond_false,Qzc,Qy7,Qzd,Qze,Qy8,Qy9,Qzi,Qzj,Qzf,Qzg];simp (disch:=omega) only [if_pos,if_neg];done)))
  trivial
end
section
open Go.RowKit
theorem Wv {P:Program} (w:World) (dT sT ty elem:TypeId) (sz b o dLen dCap:Nat) (a:Addr) (sLen sCap:Nat) (cs:List Value)
  (hu:P.underlying dT=some (.slice elem)) (hs:Z1 P elem=some sz) (hn:cs.length=Nat.min sLen dLen * sz)
  (hsrc:∀ j v,cs[j]? = some v→w.cell? (a.add j)=some v) (hc:∀ j,j < cs.length→(w.cell? ⟨b,o+j,none⟩).isSome=true) (hf:∀ j,j < cs.length→w.frozen? ⟨b,o+j,none⟩=false) (h1:∀ v∈cs,v.oneCell'=true) :
  (Builtin.copy_ #[dT,sT] ty #[.slice (some ⟨b,o,none⟩) dLen dCap,.slice (some a) sLen sCap]).run P w=.ok (goInt (Nat.min sLen dLen:Nat)) (w.setCells b o cs):=by
 have hst:=run_storeCells_cells (P:=P) b o cs 0 w (by simpa using hc) (by simpa using hf) h1;have hfc:=run_firstCells_some (P:=P) w sz (Nat.min sLen dLen) a sLen sCap cs hn hsrc;simp only [Nat.add_zero] at hst;simp [Builtin.copy_,run_underlying hu,Builtin.lenOf,QA hs,hfc,hst]
theorem Qlt {α:Type} (l x y:List α) (a:Nat) (h:a+x.length+y.length≤l.length):(QD (QD l a x) (a+x.length) y).take (a+x.length+y.length)=l.take a++x++y:=by
 rw [Xw y (a+x.length) (QD l a x) (by rw [Zj];omega),Xw x a l (by omega)]
theorem QhL {α:Type} (l x y:List α) (a:Nat) (h:a+x.length+y.length≤l.length):(QD (QD l (a+x.length) y) a x).take (a+x.length+y.length)=l.take a++x++y:=by
 have h1:=Zj y (a+x.length) l;rw [QfQ x (QD l (a+x.length) y) a (by omega),QfQ y l (a+x.length) (by omega)]
 have e1:(l.take (a+x.length)++y++l.drop (a+x.length+y.length)).take a=l.take a:=by
  rw [Qzh,Qy6 (by rw [Qy4];omega),List.take_take,Nat.min_eq_left (by omega)]
 have e2:(l.take (a+x.length)++y++l.drop (a+x.length+y.length)).drop (a+x.length)=y++l.drop (a+x.length+y.length):=by
  rw [Qzh,List.drop_append_of_le_length (by rw [Qy4];omega),List.drop_eq_nil_of_le (by rw [Qy4];omega),List.nil_append]
 rw [e1,e2,← Qzh,Qy6 (by simp only [Qy3,Qy4];omega),Qzk (by simp only [Qy3,Qy4];omega)]
def Qji (w:World) (s:Value) (t:TypeId) (sz n:Nat) (want:List Value) (e:Ending) (w':World):Prop:=∃ b' c' cur',e=.returned (.slice (some ⟨b',0,none⟩) (n+1) c')∧n+1≤c'∧c'≤maxLen ∧
   w'.heap[b']? = some (.cells cur' t (0,0))∧cur'.size=c' * sz∧cur'.toList.take ((n+1) * sz)=want ∧
   w'.os=w.os∧w'.tape=w.tape∧w'.output=w.output∧w.heap.size≤w'.heap.size∧(∀ x,x≠b'→x < w.heap.size→w'.heap[x]? = w.heap[x]?)∧(w.heap.size≤b'∨∃ c,s=.slice (some ⟨b',0,none⟩) n c)
theorem QeN {w:World} {s:Value} {t:TypeId} {sz n G:Nat} {want:List Value} {row:Array Value} (h1:row.size=G * sz) (h2:row.toList.take ((n+1) * sz)=want) (h3:n+1≤G) (h4:G≤maxLen) :
  Qji w s t sz n want (.returned (.slice (some ⟨w.heap.size,0,none⟩) (n+1) G)) (w.alloc (.cells row t)).drew :=
 ⟨_,_,_,rfl,h3,h4,heap_alloc_new w _,h1,h2,rfl,rfl,rfl,by simp,fun x _ hx=>Below.heap_alloc _ _ _ hx,.inl (Nat.le_refl _)⟩
theorem Qbm {w w0 w1 w2:World} {s:Value} {t:TypeId} {sz n b c o1 o2:Nat} {want xs ys:List Value} {row:Array Value} (hb:w0.heap[b]? = some (.cells row t (0,0))) (e0:w0.os=w.os∧w0.tape=w.tape∧w0.output=w.output) (hs:w.heap.size≤w0.heap.size) (ho:∀ x,x≠b→x < w.heap.size→w0.heap[x]? = w.heap[x]?)
  (e1:w1=w0.setCells b o1 xs) (e2:w2=(w1.setCells b o2 ys)∨w2=(w1.drew.setCells b o2 ys)) (h1:row.size=c * sz) (h2:(QD (QD row.toList o1 xs) o2 ys).take ((n+1) * sz)=want) (h3:n+1≤c) (h4:c≤maxLen) (hw:w.heap.size≤b∨∃ c,s=.slice (some ⟨b,0,none⟩) n c) :
  Qji w s t sz n want (.returned (.slice (some ⟨b,0,none⟩) (n+1) c)) w2:=by
 have key:∀ wd:World,wd.heap=w1.heap→wd.os=w1.os→wd.tape=w1.tape→wd.output=w1.output→Qji w s t sz n want (.returned (.slice (some ⟨b,0,none⟩) (n+1) c)) (wd.setCells b o2 ys):=by
  intro wd hd a1 a2 a3;subst e1;obtain ⟨cur1,p1,p2,p3⟩:=QT b xs o1 w0 row t _ hb;obtain ⟨cur2,q1,q2,q3⟩:=QT b ys o2 wd cur1 t _ (by rw [hd];exact p1);rw [Yu] at p3 q3;obtain ⟨s1,s2,s3⟩:=W4 b xs o1 w0;obtain ⟨r1,r2,r3⟩:=W4 b ys o2 wd;refine ⟨b,c,cur2,rfl,h3,h4,q1,by rw [q2,p2];exact h1,by rw [q3,p3];exact h2,by rw [r1,a1,s1];exact e0.1,by rw [r2,a2,s2];exact e0.2.1,by rw [r3,a3,s3];exact e0.2.2,?_,fun x hx hl=>?_,hw⟩
  ·rw [W2,hd,W2];exact hs
  ·rw [Wa b ys o2 wd x hx,hd,Wa b xs o1 w0 x hx];exact ho x hx hl
 rcases e2 with rfl | rfl
 ·exact key w1 rfl rfl rfl rfl
 ·exact key w1.drew rfl rfl rfl rfl
def InsW (P:Program) (f:FuncId) (t:TypeId) (sz:Nat):Prop :=
 ∀ (w:World) (s:Value) (n k vb vc:Nat) (cs vs:List Value) (vcur:Array Value),
  w.heap[vb]? = some (.cells vcur t (0,0))→vcur.size=vc * sz→1≤vc→vc≤maxLen→vs=vcur.toList.take sz→(∀ u∈vs,u.oneCell'=true) →
  ((s=.slice none 0 0∧n=0∧cs=[])∨∃ b c cur,s=.slice (some ⟨b,0,none⟩) n c∧w.heap[b]? = some (.cells cur t (0,0))∧cur.size=c * sz∧n≤c∧c≤maxLen∧cs=cur.toList.take (n * sz)∧b≠vb ∧ ∀ u∈cs,u.oneCell'=true) →
  k≤n→n≤1000000000 →
  Calls P f #[s,.int .i64 (k:Int),.slice (some ⟨vb,0,none⟩) 1 vc] w (Qji w s t sz n (cs.take (k * sz)++vs++cs.drop (k * sz)))
theorem Cf.ins {P:Program} {f:FuncId} {t:TypeId} {sz n k:Nat} {cells xs:List EV} {eb ob:EB} (hW:InsW P f t sz) (hc:Wp P f=true) (ht:t≠5) (hz:0 < sz) (he:eb.ob=.row (pvL cells) t sz 0) (hn:n * sz=cells.length) (hx:xs.length=sz) (hk:k≤n) (hb:n≤1000000000)
  (ho:ob.ob=.row (pvL (cells.take (k * sz)++xs++cells.drop (k * sz))) t sz 0) :
  Cf P f [(0,eb),(1,.row xs t sz 0)] [.osl 0 n,.i (k:Int),.osl 1 1] [(60,ob)] (.osl 60 (n+1)):=by
 refine ⟨hc,fun E φ Pub w vs e1 e2 I hR=>?_⟩;have l0:look OB.dead (obs [(0,eb),(1,EB.row xs t sz 0)]) 0=.row (pvL cells) t sz 0:=he;have l1:look OB.dead (obs [(0,eb),(1,EB.row xs t sz 0)]) 1=.row (pvL xs) t sz 0:=rfl;have hfr:∀ {m:Nat} {fr:Nat×Nat},Qj0 t m fr→fr=(0,0):=fun h=>h.elim id fun h=>absurd h.2 ht;have hpx:(pvL xs).length=sz:=by rw [Qu];exact hx
 have hpc:(pvL cells).length=n * sz:=by rw [Qu];exact hn.symm
 simp only [avL,EV.av] at hR;unfold RAs at hR;obtain ⟨u0,us,rfl,r0,hR⟩:=hR;unfold RAs at hR;obtain ⟨u1,us,rfl,r1,hR⟩:=hR;unfold RAs at hR;obtain ⟨u2,us,rfl,r2,hR⟩:=hR;unfold RAs at hR;subst hR;unfold RA RP at r1;subst r1;have k1:=I.own 1;rw [l1] at k1;rcases k1 with ⟨_,q⟩ | ⟨vb,vc,vcur,vfr,p1,⟨p2,p2'⟩,p3,p4,p5,p6,p7,p8⟩
 ·rw [q] at hpx;simp at hpx;omega
 have:=hfr p2';subst this;unfold RA at r2;rcases r2 with ⟨b2,c2,q1,q2,q3⟩ | ⟨q1,_⟩
 rotate_left
 ·rw [p1] at q1;cases q1
 rw [p1] at q1;cases q1;subst q2;rw [hpx] at p5 p6 p7;have ha1:(look OB.dead (obs [(0,eb),(1,EB.row xs t sz 0)]) 1).alive=true:=by rw [l1];rfl
 have ha0:(look OB.dead (obs [(0,eb),(1,EB.row xs t sz 0)]) 0).alive=true:=by rw [l0];rfl
 have hvl:=I.lt ha1 p1;have k0:=I.own 0;rw [l0] at k0
 have hS:∃ cs,RPs w Pub (pvL cells) cs∧(∀ u∈cs,u.oneCell'=true)∧((u0=.slice none 0 0∧n=0∧cs=[])∨∃ b c cur,u0=.slice (some ⟨b,0,none⟩) n c∧w.heap[b]? = some (.cells cur t (0,0))∧cur.size=c * sz∧n≤c∧c≤maxLen∧cs=cur.toList.take (n * sz)∧b≠vb∧φ 0=some (b,c) ∧ ∀ i,¬ Pub b i):=by
  unfold RA at r0;rcases k0 with ⟨g1,g2⟩ | ⟨b,c,cur,fr,g1,⟨g2,g2'⟩,g3,g4,g5,g6,g7,g8⟩
  ·rcases r0 with ⟨b,c,h1,_⟩ | ⟨_,h2,h3⟩
   ·rw [g1] at h1;cases h1
   ·exact ⟨[],by rw [g2];unfold RPs;rfl,by simp,.inl ⟨h3,h2,rfl⟩⟩
  ·have:=hfr g2';subst this;rcases r0 with ⟨b',c',h1,h2,h3⟩ | ⟨h1,_⟩
   rotate_left
   ·rw [g1] at h1;cases h1
   rw [g1] at h1;cases h1;rw [hpc] at g6 g7;exact ⟨_,g6,g7,.inr ⟨b,c,cur,h2,g2,g4,h3,g3,rfl,fun e=>by subst e;exact absurd (I.inj 0 1 _ _ _ ha0 ha1 g1 p1) (by decide),g1,fun i hi=>by have:=(g8 i hi).1;omega⟩⟩
 obtain ⟨cs,hcs,h1c,hS⟩:=hS;refine (hW w u0 n k vb vc cs (vcur.toList.take sz) vcur p2 p4 q3 p3 rfl p7 (hS.imp id fun ⟨b,c,cur,a1,a2,a3,a4,a5,a6,a7,_⟩=>⟨b,c,cur,a1,a2,a3,a4,a5,a6,a7,h1c⟩) hk hb).mono ?_;rintro e w' ⟨b',c',cur',rfl,y1,y2,y3,y4,y5,y6,y7,y8,y9,y10,y11⟩
 have hb':∀ i,¬ Pub b' i:=fun i hi=>by
  rcases y11 with h | ⟨c,h⟩
  ·exact absurd (I.publ _ _ hi) (by omega)
  ·rcases hS with ⟨h1,_⟩ | ⟨b,c2,cur,h1,_,_,_,_,_,_,_,h8⟩
   ·rw [h1] at h;cases h
   ·rw [h1] at h;cases h;exact h8 i hi
 have hH:Adv w Pub w' Pub:=fun b i hp=>⟨hp,World.cell?_of_block (a:=⟨b,i,none⟩) (y10 b (fun e=>by subst e;exact hb' i hp) (I.publ b i hp))⟩;have hlt':b' < w'.heap.size:=(Array.getElem?_eq_some_iff.1 y3).1
 have hmn:E.w0.heap.size≤b'∨E.A b':=by
  rcases y11 with h | ⟨c,h⟩
  ·rw [e1];exact .inl h
  ·rcases hS with ⟨h1,_⟩ | ⟨b,c2,cur,h1,_,_,_,_,_,_,h7,h8⟩
   ·rw [h1] at h;cases h
   ·rw [h1] at h;cases h;exact I.mine 0 _ _ ha0 h7
 have lk:∀ r,(look OB.dead (obs [(60,ob)]) r).alive=true→r=60:=fun r hr=>by
  by_cases e:60=r
  ·exact e.symm
  ·simp only [obs,Qb,if_neg e] at hr;cases hr
 have l60:look OB.dead (obs [(60,ob)]) 60=.row (pvL (cells.take (k * sz)++xs++cells.drop (k * sz))) t sz 0:=ho;refine ⟨_,fun q=>if q=60 then some (b',c') else φ q,Pub,rfl,?_,?_⟩
 ·refine I.next y6 y7 y8 y9 (fun b h hA=>y10 b (fun e=>by subst e;rcases hmn with h2 | h2;omega;exact hA h2) (by rw [e1] at h;exact h)) hH (fun _ _ h=>.inl h) (fun b i h=>Nat.lt_of_lt_of_le (I.publ b i h) y9) (fun r hr=>?_) (fun r b c hr he=>?_) (fun r r' b c c' hr hr' he he'=>?_) (fun q hq=>?_)
  ·have e:=lk r hr;subst e;rw [l60]
   have hlen:(pvL (cells.take (k * sz)++xs++cells.drop (k * sz))).length=(n+1) * sz:=by
    have hks:k * sz≤n * sz:=Qzl _ hk;rw [Qu,Qy3,Qy3,Qy4,List.length_drop,hx,Nat.add_mul];omega
   have hq:RPs w' Pub (pvL (cells.take (k * sz)++xs++cells.drop (k * sz))) (cs.take (k * sz)++vcur.toList.take sz++cs.drop (k * sz)):=by
    rw [QbN,QbN,QfM,QfL];exact Y6 (Y6 (Qci _ (Zh hH _ _ hcs)) (Zh hH _ _ p6)) (Qfc _ (Zh hH _ _ hcs))
   refine .inr ⟨b',c',cur',(0,0),if_pos rfl,⟨y3,.inl rfl⟩,y2,y4,?_,?_,?_,fun i hi=>absurd hi (hb' i)⟩
   ·rw [hlen,y4];exact Qzl _ y1
   ·rw [hlen,y5];exact hq
   ·rw [hlen,y5];intro u hu;rcases List.mem_append.1 hu with hu | hu
    ·rcases List.mem_append.1 hu with hu | hu
     ·exact h1c u (List.mem_of_mem_take hu)
     ·exact p7 u hu
    ·exact h1c u (List.mem_of_mem_drop hu)
  ·have e:=lk r hr;subst e;simp at he;obtain ⟨rfl,rfl⟩:=he;exact hmn
  ·exact (lk r hr).trans (lk r' hr').symm
  ·refine if_neg fun e=>?_;subst e;simp [obs] at hq
 ·unfold EV.av RA;exact .inl ⟨b',c',if_pos rfl,rfl,y1⟩
end
end Go.Proofs.YtcebndkiagbddaaGreatDoor
