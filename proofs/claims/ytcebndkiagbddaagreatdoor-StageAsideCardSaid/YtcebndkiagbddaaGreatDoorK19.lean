/- A part of the proof: contracts of functions and what they stand on. Written shorter and merged by a program (pack.py). -/
import Derived.Shelf.Strings.SplitCore
import Derived.Shelf.Strings.OnBuilder
import Derived.Test.YtcebndkiagbddaaGreatDoorK18
set_option linter.unusedVariables false
set_option linter.unusedSimpArgs false
set_option maxRecDepth 100000
set_option maxHeartbeats 4000000
open List renaming length_drop → Qy3, length_take → Qy4, take_of_length_le → Qy6, take_append_of_le_length → Qy7, length_append → Qzb, getElem?_take → Qzg, size_toArray → Qzh, append_assoc → Qzi, mem_of_mem_drop → Qzl, getElem?_drop → Qzm, getD_eq_getElem?_getD → Qzn, getElem?_eq_some_iff → Qzo, length_map → Qzr, drop_of_length_le → Qzs, count_le_length → Qzt
open Array renaming getElem?_eq_getElem → Qy5, length_toList → Qy8, toList_append → Qy9, size_append → Qzc, getElem?_eq_some_iff → Qzd
open Nat renaming min_eq_left → Qza, zero_add → Qze, le_refl → Qzf, mul_one → Qzj, min → Qzk, min_self → Qzq, mul_le_mul_right → Qzu
open Bool renaming noConfusion → Qzp
namespace Go.Proofs.YtcebndkiagbddaaGreatDoor
section
open Go.RowKit
theorem QdG {l:List UInt8} {c:Nat} (hc:c≤1000000) (hl:l.length≤1000000):Cf Tryz.prog 75 [] [.s l,.i (c:Int)] [] (.s (Lib.repeatL l c)) :=
 Cf.of (by kernel_rfl) fun w Pub φ vs hp hR=>by
  obtain ⟨u,v,rfl,h1,h2⟩:=ra2 hR;have e1:=Xc h1;have e2:=Xc h2;subst e1 e2
  have hlen:l.length * c≤140737488355328:=by
   have:=Nat.mul_le_mul hl hc;omega
  exact Tryz.strings_Repeat ⟨⟨l⟩⟩ c w (by omega) hlen
theorem Wg {n:Int} (hn:YA n):Cf Tryz.prog 31 [] [.i n] [] (.s (QC n)):=by
 have h1:=Q0 n (m:=8) (by decide);have h2:=QW n (m:=8) (by decide);have e:=Qwg n;refine Qs {} Tryz.func31 Tryz.ntmps31 ?_;refine ⟨_,_,_,_,(@Wh ?_ ?_ ?_ ?_ ?_),?_⟩
 rotate_left 5
 repeat refine o0 ?_
 refine ⟨_,_,_,_,(@Wh ?_ ?_ ?_ ?_ ?_),?_⟩
 rotate_left 5
 repeat (refine Ob.mk ?_ ?_;focus (first | (exact Eq.refl _) | omega | (simp only [SrcE.len,Qze,Qzb,List.length_cons,List.length_nil];omega) | (simp [SrcE.len];omega)))
 refine clX (QdG (l:=[49]++(dig8.drop (pk n 8).toNat).take ((pk n 8+1).toNat - (pk n 8).toNat)) (c:=32) (by decide) (by simp only [Qzb,Qy4,Qy3,List.length_cons,List.length_nil,dig8];omega)) ?_
 repeat (refine Ob.mk ?_ ?_;focus (first | (exact Eq.refl _) | assumption))
 trivial
 all_goals (first | exact hn.1 | exact hn.2 | omega)
end
section
open Go.RowKit
theorem Cf.ofV {P:Program} {f:FuncId} {ags:List EV} {res:EV} {u:Value} (hc:Wp P f=true) (hr:∀ (w:World) (Pub:Nat→Nat→Prop) (φ:Qt),RA w Pub φ res.av u)
  (h:∀ (w:World) (Pub:Nat→Nat→Prop) (φ:Qt) (vs:List Value),(∀ b i,Pub b i→b < w.heap.size)→RAs w Pub φ (avL ags) vs→Calls P f vs.toArray w fun e w'=>e=.returned u∧Below w.heap.size w w'):Cf P f [] ags [] res:=by
 refine ⟨hc,fun E φ Pub w vs e1 e2 I hR=>(h w Pub φ vs I.publ hR).mono ?_⟩;rintro e w' ⟨rfl,hb⟩;exact ⟨u,φ,Pub,rfl,I.below e1 hb,hr _ _ _⟩
abbrev XJ (p:List Bool):EV:=.agg [.u32 (adr p),.i (p.length:Int)]
section
variable {w:World} {Pub:Nat→Nat→Prop} {φ:Qt}
theorem Qyj {p:List Bool} {u:Value} (h:RA w Pub φ (XJ p).av u):u=Qi9 (adr p).toNat (p.length:Int) :=
 Qxp (k:=(adr p,(p.length:Int))) h
theorem Qwl (p:List Bool):RA w Pub φ (XJ p).av (Qi9 (adr p).toNat (p.length:Int)) :=
 nmA_V (w:=w) (Pub:=Pub) (φ:=φ) (adr p,(p.length:Int))
theorem ra_i {x:Int}:RA w Pub φ (EV.i x).av (.int .i64 x):=by unfold EV.av RA RP;rfl
end
theorem Jo {p:List Bool} (h:p.length≤32):Cf Tryz.prog 58 [] [XJ p] [] (.i 0) :=
 Cf.ofV (by kernel_rfl) (fun _ _ _=>ra_i) fun w Pub φ vs hp hR=>by
  obtain ⟨u,rfl,h1⟩:=ra1 hR;rw [Qyj h1];exact Qlf _ _ 0 w (adr p).toNat_lt (Lib.hid (Qmo h))
abbrev Vo (k a b:Int):List Bool:=X4 (J7 k a b) (QaH k a b)
theorem Yh {k a b:Int}:(Vo k a b).length≤32:=by rw [Y5];exact Qlg _ _ _
theorem ZP {k a b:Int} {s:List UInt8} (h1:J6 k) (h2:J6 a) (h3:J6 b):Cf Tryz.prog 23 [] [.agg [.i k,.i a,.i b,.s s]] [] (XJ (Vo k a b)) :=
 Cf.ofV (by kernel_rfl) (fun _ _ _=>Qwl _) fun w Pub φ vs hp hR=>by
  obtain ⟨u,rfl,h⟩:=ra1 hR
  have e:u=Qwi k a b ⟨⟨s⟩⟩:=by
   unfold EV.av RA at h;obtain ⟨vs,e,h⟩:=h;simp only [avL] at h;unfold RAs at h;obtain ⟨u0,us,rfl,h0,h⟩:=h;unfold RAs at h;obtain ⟨u1,us,rfl,h1,h⟩:=h;unfold RAs at h;obtain ⟨u2,us,rfl,h2,h⟩:=h;unfold RAs at h;obtain ⟨u3,us,rfl,h3,h⟩:=h;unfold RAs at h;subst h;unfold EV.av RA RP at h0 h1 h2 h3;subst h0 h1 h2 h3;exact e
  have l:=Qlg k a b;have v:=(Qf9 k a b).2.2;rw [Int.toNat_natCast] at v;rw [e,ZM,Qdf (Qtb k a b) l,Y5,Qag v];exact Qwk k a b ⟨⟨s⟩⟩ w h1 h2 h3
end
section
open Go.RowKit Go.Lib
theorem ra3 {w:World} {Pub:Nat→Nat→Prop} {φ:Qt} {x y z:EV} {vs:List Value} (h:RAs w Pub φ (avL [x,y,z]) vs):∃ u v t,vs=[u,v,t]∧RA w Pub φ x.av u∧RA w Pub φ y.av v∧RA w Pub φ z.av t:=by
 unfold avL RAs at h;obtain ⟨u,us,rfl,h1,h2⟩:=h;obtain ⟨v,t,rfl,h3,h4⟩:=ra2 h2;exact ⟨u,v,t,rfl,h1,h3,h4⟩
theorem ra4 {w:World} {Pub:Nat→Nat→Prop} {φ:Qt} {x y z q:EV} {vs:List Value} (h:RAs w Pub φ (avL [x,y,z,q]) vs):∃ u v t s,vs=[u,v,t,s]∧RA w Pub φ x.av u∧RA w Pub φ y.av v∧RA w Pub φ z.av t∧RA w Pub φ q.av s:=by
 unfold avL RAs at h;obtain ⟨u,us,rfl,h1,h2⟩:=h;obtain ⟨v,t,s,rfl,h3,h4⟩:=ra3 h2;exact ⟨u,v,t,s,rfl,h1,h3,h4⟩
theorem Qyl {w:World} {Pub:Nat→Nat→Prop} {φ:Qt} {b off n c sz:Nat} {f:Nat→Nat→EV} (hn:n≤c) (hc:c≤maxLen) (hsz:0 < sz)
  (h:∀ i,i < n → ∀ j,j < sz→∃ u,w.cell? ⟨b,off+(i * sz+j),none⟩=some u∧Pub b (off+(i * sz+j))∧u.oneCell'=true∧RP w Pub (f i j).pv u):RA w Pub φ (EV.lz n sz f).av (.slice (some ⟨b,off,none⟩) n c):=by
 unfold EV.av EV.pv RA RP;refine ⟨_,c,rfl,hn,hc,(fun h=>by cases h),.inr ⟨b,off,rfl,Qdg fun k q hq=>?_⟩⟩;have hk:k < n * sz:=by have:=(Qzo.1 hq).1;rw [WX] at this;exact this
 have hb:k % sz < sz:=Nat.mod_lt _ hsz;have ha:k / sz < n:=(Nat.div_lt_iff_lt_mul hsz).2 hk;have e:k / sz * sz+k % sz=k:=by rw [Nat.mul_comm];exact Nat.div_add_mod k sz
 have g:=XG n sz f ha hb;rw [e,hq] at g;cases g;have:=h _ ha _ hb;rw [e] at this;exact this
theorem Cf.ofStrs {P:Program} {f:FuncId} {ags:List EV} {L:List (List UInt8)} {T:TypeId} (hc:Wp P f=true) (hL:L.length≤maxLen)
  (h:∀ (w:World) (Pub:Nat→Nat→Prop) (φ:Qt) (vs:List Value),(∀ b i,Pub b i→b < w.heap.size)→RAs w Pub φ (avL ags) vs →
   Calls P f vs.toArray w fun e w'=>e=.returned (.slice (some ⟨w.heap.size,0,none⟩) L.length L.length)∧w'=w.alloc (.cells (L.map fun s=>Value.string ⟨s.toArray⟩).toArray T)):Cf P f [] ags [] (Qga L):=by
 refine ⟨hc,fun E φ Pub w vs e1 e2 I hR=>(h w Pub φ vs I.publ hR).mono ?_⟩;rintro e w' ⟨rfl,hw'⟩;have hb:Below w.heap.size w w':=by rw [hw'];exact Qan _ _
 have hnew:w'.heap[w.heap.size]? = some (.cells (L.map fun s=>Value.string ⟨s.toArray⟩).toArray T):=by rw [hw'];exact heap_alloc_new w _
 have hlt:w.heap.size < w'.heap.size:=(Qzd.1 hnew).1;refine ⟨_,φ,fun b i=>Pub b i∨(b=w.heap.size∧i < L.length),rfl,?_,?_⟩
 ·refine I.next hb.os hb.tape hb.output hb.size (fun b h _=>hb.block b (by rw [e1] at h;exact h)) (fun b i hp=>⟨.inl hp,?_⟩) ?_ ?_ (fun r h=>Qzp (show false=true from h)) (fun r _ _ h=>Qzp (show false=true from h)) (fun r _ _ _ _ h=>Qzp (show false=true from h)) (fun _ h=>by cases h)
  ·simp only [World.cell?,hb.block b (I.publ b i hp)]
  ·rintro b i (hp | ⟨rfl,hi⟩)
   ·exact .inl hp
   ·rw [e1];exact .inr (.inl (Qzf _))
  ·rintro b i (hp | ⟨rfl,hi⟩)
   ·exact Nat.lt_of_lt_of_le (I.publ b i hp) hb.size
   ·exact hlt
 ·refine Qyl (Qzf _) hL (by decide) fun i hi j hj=>?_;obtain rfl:j=0:=by omega
  refine ⟨.string ⟨(L.getD i []).toArray⟩,?_,.inr ⟨rfl,by omega⟩,rfl,by unfold EV.pv RP;rfl⟩;rw [Qze,Qzj,Nat.add_zero];simp only [World.cell?,hnew];rw [Qzn,List.getElem?_eq_getElem hi];simp [hi]
theorem Qym {w:World} {Pub:Nat→Nat→Prop} {φ:Qt} {L:List (List UInt8)} {v:Value} (h:RA w Pub φ (Qga L).av v) :
  ∃ a c,v=.slice a L.length c∧L.length≤c∧c≤maxLen∧(L=[]∨∃ b o,a=some ⟨b,o,none⟩ ∧ ∀ (i:Nat) u,L[i]? = some u→w.cell? ⟨b,o+i,none⟩=some (.string ⟨u.toArray⟩)∧Pub b (o+i)):=by
 unfold EV.av EV.pv RA RP at h;obtain ⟨a,c,rfl,h1,h2,_,h4⟩:=h;refine ⟨a,c,rfl,h1,h2,?_⟩;rcases h4 with h4 | ⟨b,o,rfl,h4⟩
 ·exact .inl (List.eq_nil_of_length_eq_zero h4)
 ·refine .inr ⟨b,o,rfl,fun i u hu=>?_⟩;have hi:=(Qzo.1 hu).1;have g:=XG L.length 1 (fun i j=>EV.s (L.getD i [])) hi (j:=0) (by decide);rw [Qzj,Nat.add_zero] at g;obtain ⟨x,k1,k2,_,k4⟩:=Qa7 h4 g;have e:L.getD i []=u:=by rw [Qzn,hu];rfl
  rw [e] at k4;unfold EV.pv RP at k4;rw [k1,k4];exact ⟨rfl,k2⟩
theorem Qgb (L:List (List UInt8)):(L.map fun s=>(ByteArray.mk s.toArray)).map (·.data.toList)=L:=by
 rw [List.map_map];exact (List.map_congr_left (g:=id) fun s _=>rfl).trans (List.map_id L)
theorem Qgc {l:List UInt8} {c:UInt8}:Cf Tryz.prog 203 [] [.s l,.s [c]] [] (.i (Lib.indexByte l c)) :=
 Cf.of (by kernel_rfl) fun w Pub φ vs hp hR=>by
  obtain ⟨u,v,rfl,h1,h2⟩:=ra2 hR;have e1:=Xc h1;have e2:=Xc h2;subst e1 e2;exact (Tryz.stringslite_Index_one ⟨⟨l⟩⟩ c w).mono fun e w' k=>⟨k.1,by rw [k.2];exact Below.refl _ _⟩
theorem Qli {l:List UInt8} {c:UInt8} (hl:l.length≤1100000):Cf Tryz.prog 192 [] [.s l,.s [c],.i 0,.i (-1)] [] (Qga (spl c l)) :=
 Cf.ofStrs (T:=9) (by kernel_rfl) (by rw [Qeu];have:=Qzt (a:=c) (l:=l);unfold maxLen;omega) fun w Pub φ vs hp hR=>by
  obtain ⟨u0,u1,u2,u3,rfl,h0,h1,h2,h3⟩:=ra4 hR;have e0:=Xc h0;have e1:=Xc h1;have e2:=Xc h2;have e3:=Xc h3;subst e0 e1 e2 e3;have hc:Lib.countB ⟨⟨l⟩⟩ ⟨⟨[c]⟩⟩=l.count c:=Lib.count_one c l;have hle:=Qzt (a:=c) (l:=l);have hsz:(ByteArray.mk (Array.mk l)).size=l.length:=rfl;have all:=Lib.splitB_all ⟨⟨[c]⟩⟩ (Qzf 1) 0 (l.count c) ⟨⟨l⟩⟩ hc;have e:=Qmj c ⟨⟨l⟩⟩;have e':(Lib.splitB ⟨⟨[c]⟩⟩ 0 (l.count c) ⟨⟨l⟩⟩).map (·.data.toList)=spl c l:=by rw [← hc];exact e
  refine (Any.strings_genSplit_core Tryz.lays221 (by kernel_rfl) ⟨⟨l⟩⟩ ⟨⟨[c]⟩⟩ 0 (-1) (l.count c+1) w (by rw [hsz];omega) (Qzf 1) (Nat.zero_le _)
   (fun x cs hx=>(Tryz.strings_Index_one x c _).mono fun e w' k=>⟨by rw [k.1];show _=Ending.returned (Value.int .i64 (Lib.index x.data.toList [c]));rw [Lib.index_one],k.2⟩)
   ((Tryz.strings_Count_one ⟨⟨l⟩⟩ c w).mono fun e w' k=>⟨by rw [k.1,hc];rfl,k.2⟩) (by decide) (by decide) (by rw [hc,if_pos (by decide),hsz];omega)).mono fun e w' k=>?_
  rw [Nat.add_sub_cancel] at k;obtain ⟨k1,k2⟩:=k;rw [k1,k2,all,Qeu];refine ⟨rfl,?_⟩;rw [← all,Lib.cellsOf_full,← e',List.map_map];rfl
theorem Qlj {l:List UInt8} {c:UInt8} (hl:l.length≤1100000):Cf Tryz.prog 160 [] [.s l,.s [c]] [] (Qga (spl c l)):=by
 refine Qs {} Tryz.func160 Tryz.ntmps160 ?_;refine clX (Qli (c:=c) hl) ?_
 repeat refine o7 ?_
 trivial
theorem QeI {L:List (List UInt8)} {sep:List UInt8} (hL:L.length≤1100000) (hN:(Lib.join L sep).length≤1100000):Cf Tryz.prog 76 [] [Qga L,.s sep] [] (.s (Lib.join L sep)) :=
 Cf.of (by kernel_rfl) fun w Pub φ vs hp hR=>by
  obtain ⟨u,v,rfl,h1,h2⟩:=ra2 hR;have e2:=Xc h2;subst e2;obtain ⟨a,c,rfl,hn,hm,h⟩:=Qym h1;rcases h with rfl | ⟨b,o,rfl,h⟩
  ·exact (Tryz.strings_Join_none a c ⟨⟨sep⟩⟩ w).mono fun e w' k=>⟨k.1,by rw [k.2];exact Below.refl _ _⟩
  ·by_cases h0:L=[]
   ·subst h0;exact (Tryz.strings_Join_none _ c ⟨⟨sep⟩⟩ w).mono fun e w' k=>⟨k.1,by rw [k.2];exact Below.refl _ _⟩
   ·have hb:b < w.heap.size:=by
     cases L with
     | nil=>exact absurd rfl h0
     | cons x xs=>exact hp b _ (h 0 x rfl).2
    have k:=Tryz.strings_Join b o c (L.map fun s=>(ByteArray.mk s.toArray)) ⟨⟨sep⟩⟩ w (fun j x hx=>by
     rw [List.getElem?_map,Option.map_eq_some_iff] at hx;obtain ⟨u,hu,rfl⟩:=hx
     exact (h j u hu).1) hb (by rw [Qzr];omega) (by rw [Qzr];exact hn) (by rw [Qgb];show (Lib.join L sep).length≤_;omega)
    rw [Qgb,Qzr] at k;exact k
end
section
open Go.RowKit
set_option maxHeartbeats 1000000 in
theorem Qyv:InsW Tryz.prog 159 36 2:=by
 intro w s n k vb vc cs vs vcur hvb hvz hvc hvm hvs h1v hS hk hb;obtain ⟨i0,z0,ht,hi0,hz0,hzs,hby,hzc,hzl⟩:=Ja ((TT.find_ok QbU (T:=31) rfl).sl _ _ _ _ rfl).2.2.1;have mixed:Tryz.prog.follows .mixedOrders=true:=by kernel_rfl
 have hsz:Z1 Tryz.prog 36=some 2:=(TT.find_ok QbU (T:=36) rfl).sz;have hvl:vs.length=2:=by rw [hvs,Qy4,Qy8,hvz];omega
 have hvc':∀ j v,vs[j]? = some v→w.cell? ((⟨vb,0,none⟩:Addr).add j)=some v:=fun j v hj=>by
  rw [Addr.add_mid,Qze,cell_of_row w vb j vcur _ _ hvb];rw [hvs,Qzg] at hj;split at hj
  ·simpa using hj
  ·cases hj
 have hvlt:vb < w.heap.size:=(Qzd.1 hvb).1;have hvlc:vs.length=1 * i0.size:=by rw [hzs,hvl]
 rcases hS with ⟨rfl,rfl,rfl⟩ | ⟨b,c,cur,rfl,hbk,hcz,hnc,hcm,hcs,hne,h1c⟩
 ·obtain rfl:k=0:=by omega
  have hrun0:∀ ty,(Builtin.append_ #[31,31] ty #[.slice none 0 0,.slice (some ⟨vb,0,none⟩) 1 vc]).run Tryz.prog w=_:=fun ty =>
   run_append_nil (P:=Tryz.prog) w 31 ty 36 i0 z0 ht hi0 hz0 ⟨vb,0,none⟩ 1 vc vs hvlc hvc' (by decide) (by omega) (by rw [hby];decide)
  obtain ⟨G,hG⟩:∃ G,G=grownCap w 1 0 36:=⟨_,rfl⟩;obtain ⟨row,hrow⟩:∃ row,row=vs.toArray++Builtin.zeroCells z0.cells (G - 1):=⟨_,rfl⟩;have hrun:∀ ty,(Builtin.append_ #[31,31] ty #[.slice none 0 0,.slice (some ⟨vb,0,none⟩) 1 vc]).run Tryz.prog w=.ok (.slice (some ⟨w.heap.size,0,none⟩) 1 G) (w.drew.alloc (.cells row 36)):=by rw [hrow,hG];exact hrun0
  have hG1:1≤G:=by rw [hG];exact grownCap_ge w _ _ _
  have hG2:G≤maxLen:=by rw [hG];exact grownCap_le_maxLen w _ _ _ (by unfold maxLen;omega)
  have hr1:row.size=G * 2:=by rw [hrow,Qzc,size_zeroCells,hzc,Qzh,hvl];omega
  have hr2:row.toList.take ((0+1) * 2)=([]:List Value).take (0 * 2)++vs++([]:List Value).drop (0 * 2):=by
   rw [hrow,Qy9,Qy7 (by simp [hvl]),Qy6 (by simp [hvl])];simp
  clear hrow hG hrun0 hvs hvc' hzl
  go_enter Tryz.func159,Tryz.ntmps159
  go_wp2_with (at_builtin;refine Lib.wpList_append_run _ rfl _ _ _ _ rfl _ _ rfl rfl _ _ (hrun _) ?_)
  go_ret
  exact QeN hr1 hr2 hG1 hG2
 ·have hlt:b < w.heap.size:=(Qzd.1 hbk).1;have hcl:cs.length=n * 2:=by rw [hcs,Qy4,Qy8,hcz];exact Qza (Qzu _ hnc)
  have hcl':cur.toList.length=c * 2:=by rw [Qy8];exact hcz
  have hcc:∀ j v,cs[j]? = some v→w.cell? ⟨b,j,none⟩=some v:=fun j v hj=>by
   rw [cell_of_row w b j cur _ _ hbk];rw [hcs,Qzg] at hj;split at hj
   ·simpa using hj
   ·cases hj
  have hsrc:Go.Src Tryz.prog i0.size 31 (.slice (some ⟨vb,0,none⟩) 1 vc) 1 vs w:=Go.Src.ofSlice w ht ⟨vb,0,none⟩ 1 vc vs hvlc hvc' h1v;by_cases hkn:k=n
  ·subst hkn
   have hw:cs.take (k * 2)++vs++cs.drop (k * 2)=cs++vs:=by
    rw [Qy6 (by omega),Qzs (by omega),List.append_nil]
   by_cases hroom:k+1≤c
   ·have hrun:∀ ty,(Builtin.append_ #[31,31] ty #[.slice (some ⟨b,0,none⟩) k c,.slice (some ⟨vb,0,none⟩) 1 vc]).run Tryz.prog w=.ok (.slice (some ⟨b,0,none⟩) (k+1) c) (w.setCells b (k * 2) vs):=fun ty=>by
     have:=run_append_room_src (P:=Tryz.prog) w 31 31 ty 36 i0 ht hi0 b 0 k c _ 1 vs hsrc hroom (fun j hj=>by rw [cell_of_row w b _ cur _ _ hbk,Qy5 (by rw [hcz,hzs];omega)];rfl) (fun j hj=>by unfold World.frozen?;simp only [hbk];simp)
     rwa [Qze,hzs] at this
    have hlist:(QD (QD cur.toList 0 []) (k * 2) vs).take ((k+1) * 2)=cs.take (k * 2)++vs++cs.drop (k * 2):=by
     rw [hw,QfN,show (k+1) * 2=k * 2+vs.length from by rw [hvl];omega,Xw vs (k * 2) cur.toList (by rw [hcl',hvl];omega),hcs]
    clear hsrc hvs hvc' hzl hcc hcs
    go_enter Tryz.func159,Tryz.ntmps159
    go_wp2_with (at_builtin;refine Lib.wpList_append_run _ rfl _ _ _ _ rfl _ _ rfl rfl _ _ (hrun _) ?_)
    go_ret
    exact Qbm (w0:=w) (w1:=w) (o1:=0) (xs:=[]) hbk ⟨rfl,rfl,rfl⟩ (Qzf _) (fun _ _ _=>rfl) rfl (.inl rfl) hcz (by first | exact hlist | (simp only [Qzj] at hlist ⊢;exact hlist)) hroom hcm (.inr ⟨c,rfl⟩)
   ·have hold:(Builtin.firstCells i0.size k (.slice (some ⟨b,0,none⟩) k c)).run Tryz.prog w.drew=.ok cs.toArray w.drew:=run_firstCells_some w.drew i0.size k ⟨b,0,none⟩ k c cs (by rw [hzs];exact hcl) (fun j v hj=>by rw [Addr.add_mid,Qze];exact hcc j v hj)
    have hrun0:∀ ty,(Builtin.append_ #[31,31] ty #[.slice (some ⟨b,0,none⟩) k c,.slice (some ⟨vb,0,none⟩) 1 vc]).run Tryz.prog w=_:=fun ty =>
     run_append_grow_src (P:=Tryz.prog) w 31 31 ty 36 i0 z0 ht hi0 hz0 (some ⟨b,0,none⟩) k c cs hold _ 1 vs hsrc (by omega) (by omega) (growslice_fits (by omega) (by rw [hby];omega))
    obtain ⟨G,hG⟩:∃ G,G=grownCap w (k+1) c 36:=⟨_,rfl⟩;obtain ⟨row,hrow⟩:∃ row,row=(cs++vs).toArray++Builtin.zeroCells z0.cells (G - (k+1)):=⟨_,rfl⟩;have hrun:∀ ty,(Builtin.append_ #[31,31] ty #[.slice (some ⟨b,0,none⟩) k c,.slice (some ⟨vb,0,none⟩) 1 vc]).run Tryz.prog w=.ok (.slice (some ⟨w.heap.size,0,none⟩) (k+1) G) (w.drew.alloc (.cells row 36)):=by rw [hrow,hG];exact hrun0
    have hG1:k+1≤G:=by rw [hG];exact grownCap_ge w _ _ _
    have hG2:G≤maxLen:=by rw [hG];exact grownCap_le_maxLen w _ _ _ (by unfold maxLen;omega)
    have hr1:row.size=G * 2:=by rw [hrow,Qzc,size_zeroCells,hzc,Qzh,Qzb,hvl,hcl];omega
    have hr2:row.toList.take ((k+1) * 2)=cs.take (k * 2)++vs++cs.drop (k * 2):=by
     rw [hw,hrow,Qy9,Qy7 (by simp only [Qzb,hvl,hcl];omega),Qy6 (by simp only [Qzb,hvl,hcl];omega)]
    clear hrow hG hrun0 hsrc hvs hvc' hzl hcc hcs hold
    go_enter Tryz.func159,Tryz.ntmps159
    go_wp2_with (at_builtin;refine Lib.wpList_append_run _ rfl _ _ _ _ rfl _ _ rfl rfl _ _ (hrun _) ?_)
    go_ret
    exact QeN hr1 hr2 hG1 hG2
  ·have hk':k < n:=by omega
   have hz2:¬ ((k:Int)=(n:Int)):=by omega
   have hdl:(cs.drop (k * 2)).length=(n - k) * 2:=by rw [Qy3,hcl];omega
   have hw1:IntKind.i64.wrap ((k:Int)+1)=(k:Int)+1:=by rw [IntKind.wrap_i64];omega
   have hc63:c≤9223372036854775807:=hcm;have hb1:(0:Int)≤(k:Int)+1:=by omega
   have htn:((k:Int)+1).toNat=k+1:=by omega
   have hb3:(k:Int)≤(n:Int)+1:=by omega
   have hb4:¬ (c=k):=by omega
   by_cases hroom:n+1≤c
   ·have hb2:¬ (c=k+1):=by omega
    have hsp:∀ j,j < (n+1) * 2→(w.cell? ⟨b,j,none⟩).isSome=true:=fun j hj=>by
     rw [cell_of_row w b j cur _ _ hbk,Qy5 (by rw [hcz];omega)];rfl
    have hfz:∀ j,w.frozen? ⟨b,j,none⟩=false:=fun j=>by unfold World.frozen?;simp only [hbk];simp
    have hov:∀ lb cb,(callFunc 190 #[.slice (some ⟨vb,0,none⟩) 1 vc,.slice (some ⟨b,(k+1) * 2,none⟩) lb cb]).run Tryz.prog w=.ok (.value (.bool false)) w:=fun lb cb=>by
     rw [run_callFunc_extern Tryz.func190 (by kernel_rfl) (by kernel_rfl) (by kernel_rfl) (e:=Extern.SlicesOverlaps.overlaps #[31,31] #[4]) (by kernel_rfl),
      Lib.run_overlaps_apart w 31 4 36 ht 2 (fun w=>QA hsz w) ⟨vb,0,none⟩ ⟨b,(k+1) * 2,none⟩ 1 vc lb cb (Ne.symm hne) 36 36 vcur.size cur.size (by unfold World.shape?;simp only [hvb]) (by unfold World.shape?;simp only [hbk]) (by rw [hcz];omega) (by unfold World.frozen?;simp only [hvb];simp) (by unfold World.frozen?;simp only [hvb];simp)]
     rfl
    have hm1:Qzk (n+1 - k) (n - k)=n - k:=Nat.min_eq_right (by omega);have hm2:Qzk 1 (n+1 - k)=1:=Qza (by omega)
    have hcp1:∀ ty dc sc,(Builtin.copy_ #[31,31] ty #[.slice (some ⟨b,(k+1) * 2,none⟩) (n - k) dc,.slice (some ⟨b,k * 2,none⟩) (n+1 - k) sc]).run Tryz.prog w.drew=.ok (goInt (n - k:Nat)) (w.drew.setCells b ((k+1) * 2) (cs.drop (k * 2))):=fun ty dc sc=>by
     have:=Wv (P:=Tryz.prog) w.drew 31 31 ty 36 2 b ((k+1) * 2) (n - k) dc ⟨b,k * 2,none⟩ (n+1 - k) sc (cs.drop (k * 2)) ht hsz (by rw [Qy3,hcl,hm1];omega)
      (fun j v hj=>by rw [Addr.add_mid];exact hcc _ v (by rwa [Qzm] at hj))
      (fun j hj=>hsp _ (by rw [Qy3,hcl] at hj;omega)) (fun j hj=>hfz _) (fun v hv=>h1c v (Qzl hv))
     rwa [hm1] at this
    obtain ⟨W1,hW1⟩:∃ W1,W1=w.drew.setCells b ((k+1) * 2) (cs.drop (k * 2)):=⟨_,rfl⟩
    have hsp1:∀ j,j < (n+1) * 2→(W1.cell? ⟨b,j,none⟩).isSome=true:=fun j hj=>by
     obtain ⟨cur',c1,c2,_⟩:=QT b (cs.drop (k * 2)) ((k+1) * 2) w.drew cur _ _ hbk;rw [hW1,cell_of_row _ b j cur' _ _ c1,Qy5 (by rw [c2,hcz];omega)];rfl
    have hcp2:∀ (W:World),(∀ x,W.cell? x=W1.cell? x)→(∀ x,W.frozen? x=W1.frozen? x) → ∀ ty dc,(Builtin.copy_ #[31,31] ty #[.slice (some ⟨b,k * 2,none⟩) (n+1 - k) dc,.slice (some ⟨vb,0,none⟩) 1 vc]).run Tryz.prog W=.ok (goInt 1) (W.setCells b (k * 2) vs):=fun W hWc hWf ty dc=>by
     have:=Wv (P:=Tryz.prog) W 31 31 ty 36 2 b (k * 2) (n+1 - k) dc ⟨vb,0,none⟩ 1 vc vs ht hsz (by rw [hvl,hm2])
      (fun j v hj=>by
       rw [Addr.add_mid,hWc,hW1,World.cell?_setCells_out b _ _ _ _ (fun h _=>absurd h (Ne.symm hne))];have:=hvc' j v hj
       rwa [Addr.add_mid] at this)
      (fun j hj=>by rw [hWc];exact hsp1 _ (by omega)) (fun j hj=>by rw [hWf,hW1,World.frozen?_setCells];exact hfz _) h1v
     rwa [hm2] at this
    have hlist:(QD (QD cur.toList ((k+1) * 2) (cs.drop (k * 2))) (k * 2) vs).take ((n+1) * 2)=cs.take (k * 2)++vs++cs.drop (k * 2):=by
     have hdl2:(cs.drop (k * 2)).length=n * 2 - (k * 2):=by rw [Qy3,hcl]
     have:=QhL cur.toList vs (cs.drop (k * 2)) (k * 2) (by rw [hcl',hvl,hdl2];omega);have e1:k * 2=k * 2:=by omega
     have e2:(k+1) * 2=k * 2+2:=by omega
     have e3:cur.toList.take (k * 2)=cs.take (k * 2):=by rw [hcs,List.take_take,Qza (by omega)]
     rw [hvl,hdl2,show k * 2+2+(n * 2 - (k * 2))=(n+1) * 2 from by omega,e3] at this;rw [e1,e2];exact this
    rw [← hW1] at hcp1;have hWo:=Lib.hid hW1;clear hsrc hvs hvc' hzl hcc hcs hW1 hsp hfz hsp1
    go_enter Tryz.func159,Tryz.ntmps159
    go_wp2_with (simp only [hov])
    go_region_law_o (refine step_copy_runI rfl _ _ 31 31 rfl _ _ (by simp [Act.eval,Act.put]) (by simp [Act.eval,Act.put]) (hcp1 _ _ _) ?_)
    go_wp2_with (at_builtin;refine wpList_copy_runI _ rfl _ _ 31 31 rfl _ _ rfl rfl (hcp2 _ (fun _=>rfl) (fun _=>rfl) _ _) ?_)
    go_ret
    exact Qbm (w0:=w.drew) (w1:=W1) hbk ⟨rfl,rfl,rfl⟩ (Qzf _) (fun _ _ _=>rfl) hWo.out (by first | exact .inl rfl | exact .inr rfl) hcz (by first | exact hlist | (simp only [Qzj,Qzi] at hlist ⊢;exact hlist)) hroom hcm (.inr ⟨c,rfl⟩)
   ·have hkk:(n:Int)+1 - (k:Int)=((n+1 - k:Nat):Int):=by omega
    have hik:k+(n+1 - k)=n+1:=by omega
    have hz3:(c:Int) < (n:Int)+1:=by omega
    have hold:(Builtin.firstCells i0.size k (.slice (some ⟨b,0,none⟩) k c)).run Tryz.prog w.drew=.ok (cs.take (k * 2)).toArray w.drew:=run_firstCells_some w.drew i0.size k ⟨b,0,none⟩ k c (cs.take (k * 2)) (by rw [hzs,Qy4,hcl];omega) (fun j v hj=>by
     rw [Addr.add_mid,Qze];rw [Qzg] at hj;split at hj
     ·exact hcc j v hj
     ·cases hj)
    have htI:Tryz.prog.underlying 3=some (.int .i64):=Tryz.underlying3;obtain ⟨G,hG⟩:∃ G,G=grownCap w (n+1) c 36:=⟨_,rfl⟩;obtain ⟨row,hrow⟩:∃ row:Array Value,row=(cs.take (k * 2)).toArray++Builtin.zeroCells z0.cells (n+1 - k)++Builtin.zeroCells z0.cells (G - (n+1)):=⟨_,rfl⟩
    have hrz:∀ ty,(Builtin.append_ #[31,3] ty #[.slice (some ⟨b,0,none⟩) k c,.int .i64 ((n:Int)+1 - (k:Int))]).run Tryz.prog w=.ok (.slice (some ⟨w.heap.size,0,none⟩) (n+1) G) (w.drew.alloc (.cells row 36)):=fun ty=>by
     have h:=Lib.run_append_grow_zeros (P:=Tryz.prog) w 31 3 ty 36 i0 z0 .i64 .i64 ht htI hi0 hz0 (some ⟨b,0,none⟩) k c _ hold (n+1 - k) (by omega) (by omega) (by omega) (by omega) (by rw [hby];omega) (by rw [hby,hik];exact growslice_fits (by omega) (by omega));rw [hik,← hG,← hrow] at h;rw [hkk];exact h
    have hGn:n+1≤G:=by rw [hG];exact grownCap_ge w _ _ _
    have hG2:G≤maxLen:=by rw [hG];exact grownCap_le_maxLen w _ _ _ (by unfold maxLen;omega)
    have hG63:G≤9223372036854775807:=hG2;have hr1:row.size=G * 2:=by rw [hrow,Qzc,Qzc,size_zeroCells,size_zeroCells,hzc,Qzh,Qy4,hcl];omega
    have hrt:row.toList.take (k * 2)=cs.take (k * 2):=by
     rw [hrow,Qy9,Qy9,Qzi,Qy7 (by rw [Qy4,hcl];omega)];exact Qy6 (by rw [Qy4,hcl];omega)
    obtain ⟨W1,hW1⟩:∃ W1,W1=w.drew.alloc (.cells row 36):=⟨_,rfl⟩;rw [← hW1] at hrz
    have hN:∀ j,j < (n+1) * 2→(W1.cell? ⟨w.heap.size,j,none⟩).isSome=true:=fun j hj=>by
     have hjr:j < row.size:=by rw [hr1];omega
     rw [hW1,World.cell?_alloc_at (w:=w.drew) row _ w.heap.size j rfl,Qy5 hjr];rfl
    have hNf:∀ j,W1.frozen? ⟨w.heap.size,j,none⟩=false:=fun j=>by rw [hW1];exact World.frozen?_alloc_at (w:=w.drew) row _ w.heap.size j rfl
    have hOb:∀ j v,w.cell? ⟨b,j,none⟩=some v→W1.cell? ⟨b,j,none⟩=some v:=fun j v h=>by rw [hW1,World.cell?_alloc_past (w:=w.drew) _ b j hlt];exact h
    have hOv:∀ j v,w.cell? ⟨vb,j,none⟩=some v→W1.cell? ⟨vb,j,none⟩=some v:=fun j v h=>by rw [hW1,World.cell?_alloc_past (w:=w.drew) _ vb j hvlt];exact h
    have hm1:Qzk (n - k) (n+1 - (k+1))=n - k:=Qza (by omega);have hm2:Qzk 1 (n+1 - k)=1:=Qza (by omega);have hbN:b≠w.heap.size:=by omega
    have hcpA:∀ (W:World),(∀ x,W.cell? x=W1.cell? x)→(∀ x,W.frozen? x=W1.frozen? x) → ∀ ty dc,(Builtin.copy_ #[31,31] ty #[.slice (some ⟨w.heap.size,k * 2,none⟩) (n+1 - k) dc,.slice (some ⟨vb,0,none⟩) 1 vc]).run Tryz.prog W=.ok (goInt 1) (W.setCells w.heap.size (k * 2) vs):=fun W hWc hWf ty dc=>by
     have:=Wv (P:=Tryz.prog) W 31 31 ty 36 2 w.heap.size (k * 2) (n+1 - k) dc ⟨vb,0,none⟩ 1 vc vs ht hsz (by rw [hvl,hm2])
      (fun j v hj=>by rw [Addr.add_mid,hWc];exact hOv _ v (by have:=hvc' j v hj;rwa [Addr.add_mid] at this))
      (fun j hj=>by rw [hWc];exact hN _ (by omega)) (fun j hj=>by rw [hWf];exact hNf _) h1v
     rwa [hm2] at this
    have hcpB:∀ (W:World),(∀ x,W.cell? x=(W1.setCells w.heap.size (k * 2) vs).cell? x)→(∀ x,W.frozen? x=(W1.setCells w.heap.size (k * 2) vs).frozen? x) → ∀ ty dc sc,(Builtin.copy_ #[31,31] ty #[.slice (some ⟨w.heap.size,(k+1) * 2,none⟩) (n - k) dc,.slice (some ⟨b,k * 2,none⟩) (n - k) sc]).run Tryz.prog W=.ok (goInt (n - k:Nat)) (W.setCells w.heap.size ((k+1) * 2) (cs.drop (k * 2))):=fun W hWc hWf ty dc sc=>by
     have:=Wv (P:=Tryz.prog) W 31 31 ty 36 2 w.heap.size ((k+1) * 2) (n - k) dc ⟨b,k * 2,none⟩ (n - k) sc (cs.drop (k * 2)) ht hsz (by rw [Qy3,hcl,show Qzk (n - k) (n - k)=n - k from Qzq _];omega)
      (fun j v hj=>by
       rw [Addr.add_mid,hWc,World.cell?_setCells_out _ _ _ _ _ (fun h _=>absurd h hbN)]
       exact hOb _ v (hcc _ v (by rwa [Qzm] at hj)))
      (fun j hj=>by rw [hWc];exact isSome_setCells _ _ _ _ (fun t ht=>hN _ (by rw [hvl] at ht;omega)) _ (hN _ (by rw [Qy3,hcl] at hj;omega)))
      (fun j hj=>by rw [hWf,World.frozen?_setCells];exact hNf _) (fun v hv=>h1c v (Qzl hv))
     rwa [show Qzk (n - k) (n - k)=n - k from Qzq _] at this
    have hlist:(QD (QD row.toList (k * 2) vs) ((k+1) * 2) (cs.drop (k * 2))).take ((n+1) * 2)=cs.take (k * 2)++vs++cs.drop (k * 2):=by
     have hdl2:(cs.drop (k * 2)).length=n * 2 - (k * 2):=by rw [Qy3,hcl]
     have hrl:row.toList.length=G * 2:=by rw [Qy8];exact hr1
     have:=Qlt row.toList vs (cs.drop (k * 2)) (k * 2) (by rw [hrl,hvl,hdl2];omega);have e1:k * 2=k * 2:=by omega
     have e2:(k+1) * 2=k * 2+2:=by omega
     rw [hvl,hdl2,show k * 2+2+(n * 2 - (k * 2))=(n+1) * 2 from by omega,hrt] at this;rw [e1,e2];exact this
    have hGi:¬ (G=k):=by omega
    have hGim:¬ (G=k+1):=by omega
    have hb5:(k:Int)≤(n:Int):=by omega
    have hn1:n+1 - (k+1)=n - k:=by omega
    clear hsrc hvs hvc' hzl hcc hcs hrow hG hold hrt hN hNf hOb hOv hkk hik;subst hW1;have hE1:∀ x,((w.alloc (.cells row 36)).drew).cell? x=(w.drew.alloc (.cells row 36)).cell? x:=fun x=>rfl;have hE2:∀ x,((w.alloc (.cells row 36)).drew).frozen? x=(w.drew.alloc (.cells row 36)).frozen? x:=fun x=>rfl;have hF1:∀ x,(((w.alloc (.cells row 36)).drew.setCells w.heap.size (k * 2) vs).drew).cell? x=((w.drew.alloc (.cells row 36)).setCells w.heap.size (k * 2) vs).cell? x:=fun x=>rfl;have hF2:∀ x,(((w.alloc (.cells row 36)).drew.setCells w.heap.size (k * 2) vs).drew).frozen? x=((w.drew.alloc (.cells row 36)).setCells w.heap.size (k * 2) vs).frozen? x:=fun x=>rfl
    go_enter Tryz.func159,Tryz.ntmps159
    go_wp2_with (first
     | (at_builtin;refine Lib.wpList_append_run _ rfl _ _ _ _ rfl _ _ rfl rfl _ _ (hrz _) ?_)
     | (at_builtin;refine wpList_copy_runI _ rfl _ _ 31 31 rfl _ _ rfl rfl (hcpA _ hE1 hE2 _ _) ?_))
    go_region_law_o (refine step_copy_runI rfl _ _ 31 31 rfl (.slice (some ⟨w.heap.size,(k+1) * 2,none⟩) (n - k) (G - (k+1))) (.slice (some ⟨b,k * 2,none⟩) (n - k) (c - k)) (by simp [Act.eval,Act.put]) (by simp [Act.eval,Act.put]) (hcpB _ hF1 hF2 3 (G - (k+1)) (c - k)) ?_)
    go_wp2
    go_ret
    exact Qbm (w0:=w.drew.alloc (.cells row 36)) (w1:=(w.drew.alloc (.cells row 36)).setCells w.heap.size (k * 2) vs) (heap_alloc_new w.drew _) ⟨rfl,rfl,rfl⟩ (by simp) (fun x _ hx=>Below.heap_alloc _ _ _ hx) rfl (by first | exact .inr rfl | exact .inl rfl) hr1 (by first | exact hlist | (simp only [Qzj,Qzi] at hlist ⊢;exact hlist)) hGn hG2 (.inl (Qzf _))
end
section
open Go.RowKit
set_option maxHeartbeats 1000000 in
theorem Qyy:InsW Tryz.prog 156 33 5:=by
 intro w s n k vb vc cs vs vcur hvb hvz hvc hvm hvs h1v hS hk hb;obtain ⟨i0,z0,ht,hi0,hz0,hzs,hby,hzc,hzl⟩:=Ja ((TT.find_ok QbU (T:=23) rfl).sl _ _ _ _ rfl).2.2.1;have mixed:Tryz.prog.follows .mixedOrders=true:=by kernel_rfl
 have hsz:Z1 Tryz.prog 33=some 5:=(TT.find_ok QbU (T:=33) rfl).sz;have hvl:vs.length=5:=by rw [hvs,Qy4,Qy8,hvz];omega
 have hvc':∀ j v,vs[j]? = some v→w.cell? ((⟨vb,0,none⟩:Addr).add j)=some v:=fun j v hj=>by
  rw [Addr.add_mid,Qze,cell_of_row w vb j vcur _ _ hvb];rw [hvs,Qzg] at hj;split at hj
  ·simpa using hj
  ·cases hj
 have hvlt:vb < w.heap.size:=(Qzd.1 hvb).1;have hvlc:vs.length=1 * i0.size:=by rw [hzs,hvl]
 rcases hS with ⟨rfl,rfl,rfl⟩ | ⟨b,c,cur,rfl,hbk,hcz,hnc,hcm,hcs,hne,h1c⟩
 ·obtain rfl:k=0:=by omega
  have hrun0:∀ ty,(Builtin.append_ #[23,23] ty #[.slice none 0 0,.slice (some ⟨vb,0,none⟩) 1 vc]).run Tryz.prog w=_:=fun ty =>
   run_append_nil (P:=Tryz.prog) w 23 ty 33 i0 z0 ht hi0 hz0 ⟨vb,0,none⟩ 1 vc vs hvlc hvc' (by decide) (by omega) (by rw [hby];decide)
  obtain ⟨G,hG⟩:∃ G,G=grownCap w 1 0 33:=⟨_,rfl⟩;obtain ⟨row,hrow⟩:∃ row,row=vs.toArray++Builtin.zeroCells z0.cells (G - 1):=⟨_,rfl⟩;have hrun:∀ ty,(Builtin.append_ #[23,23] ty #[.slice none 0 0,.slice (some ⟨vb,0,none⟩) 1 vc]).run Tryz.prog w=.ok (.slice (some ⟨w.heap.size,0,none⟩) 1 G) (w.drew.alloc (.cells row 33)):=by rw [hrow,hG];exact hrun0
  have hG1:1≤G:=by rw [hG];exact grownCap_ge w _ _ _
  have hG2:G≤maxLen:=by rw [hG];exact grownCap_le_maxLen w _ _ _ (by unfold maxLen;omega)
  have hr1:row.size=G * 5:=by rw [hrow,Qzc,size_zeroCells,hzc,Qzh,hvl];omega
  have hr2:row.toList.take ((0+1) * 5)=([]:List Value).take (0 * 5)++vs++([]:List Value).drop (0 * 5):=by
   rw [hrow,Qy9,Qy7 (by simp [hvl]),Qy6 (by simp [hvl])];simp
  clear hrow hG hrun0 hvs hvc' hzl
  go_enter Tryz.func156,Tryz.ntmps156
  go_wp2_with (at_builtin;refine Lib.wpList_append_run _ rfl _ _ _ _ rfl _ _ rfl rfl _ _ (hrun _) ?_)
  go_ret
  exact QeN hr1 hr2 hG1 hG2
 ·have hlt:b < w.heap.size:=(Qzd.1 hbk).1;have hcl:cs.length=n * 5:=by rw [hcs,Qy4,Qy8,hcz];exact Qza (Qzu _ hnc)
  have hcl':cur.toList.length=c * 5:=by rw [Qy8];exact hcz
  have hcc:∀ j v,cs[j]? = some v→w.cell? ⟨b,j,none⟩=some v:=fun j v hj=>by
   rw [cell_of_row w b j cur _ _ hbk];rw [hcs,Qzg] at hj;split at hj
   ·simpa using hj
   ·cases hj
  have hsrc:Go.Src Tryz.prog i0.size 23 (.slice (some ⟨vb,0,none⟩) 1 vc) 1 vs w:=Go.Src.ofSlice w ht ⟨vb,0,none⟩ 1 vc vs hvlc hvc' h1v;by_cases hkn:k=n
  ·subst hkn
   have hw:cs.take (k * 5)++vs++cs.drop (k * 5)=cs++vs:=by
    rw [Qy6 (by omega),Qzs (by omega),List.append_nil]
   by_cases hroom:k+1≤c
   ·have hrun:∀ ty,(Builtin.append_ #[23,23] ty #[.slice (some ⟨b,0,none⟩) k c,.slice (some ⟨vb,0,none⟩) 1 vc]).run Tryz.prog w=.ok (.slice (some ⟨b,0,none⟩) (k+1) c) (w.setCells b (k * 5) vs):=fun ty=>by
     have:=run_append_room_src (P:=Tryz.prog) w 23 23 ty 33 i0 ht hi0 b 0 k c _ 1 vs hsrc hroom (fun j hj=>by rw [cell_of_row w b _ cur _ _ hbk,Qy5 (by rw [hcz,hzs];omega)];rfl) (fun j hj=>by unfold World.frozen?;simp only [hbk];simp)
     rwa [Qze,hzs] at this
    have hlist:(QD (QD cur.toList 0 []) (k * 5) vs).take ((k+1) * 5)=cs.take (k * 5)++vs++cs.drop (k * 5):=by
     rw [hw,QfN,show (k+1) * 5=k * 5+vs.length from by rw [hvl];omega,Xw vs (k * 5) cur.toList (by rw [hcl',hvl];omega),hcs]
    clear hsrc hvs hvc' hzl hcc hcs
    go_enter Tryz.func156,Tryz.ntmps156
    go_wp2_with (at_builtin;refine Lib.wpList_append_run _ rfl _ _ _ _ rfl _ _ rfl rfl _ _ (hrun _) ?_)
    go_ret
    exact Qbm (w0:=w) (w1:=w) (o1:=0) (xs:=[]) hbk ⟨rfl,rfl,rfl⟩ (Qzf _) (fun _ _ _=>rfl) rfl (.inl rfl) hcz (by first | exact hlist | (simp only [Qzj] at hlist ⊢;exact hlist)) hroom hcm (.inr ⟨c,rfl⟩)
   ·have hold:(Builtin.firstCells i0.size k (.slice (some ⟨b,0,none⟩) k c)).run Tryz.prog w.drew=.ok cs.toArray w.drew:=run_firstCells_some w.drew i0.size k ⟨b,0,none⟩ k c cs (by rw [hzs];exact hcl) (fun j v hj=>by rw [Addr.add_mid,Qze];exact hcc j v hj)
    have hrun0:∀ ty,(Builtin.append_ #[23,23] ty #[.slice (some ⟨b,0,none⟩) k c,.slice (some ⟨vb,0,none⟩) 1 vc]).run Tryz.prog w=_:=fun ty =>
     run_append_grow_src (P:=Tryz.prog) w 23 23 ty 33 i0 z0 ht hi0 hz0 (some ⟨b,0,none⟩) k c cs hold _ 1 vs hsrc (by omega) (by omega) (growslice_fits (by omega) (by rw [hby];omega))
    obtain ⟨G,hG⟩:∃ G,G=grownCap w (k+1) c 33:=⟨_,rfl⟩;obtain ⟨row,hrow⟩:∃ row,row=(cs++vs).toArray++Builtin.zeroCells z0.cells (G - (k+1)):=⟨_,rfl⟩;have hrun:∀ ty,(Builtin.append_ #[23,23] ty #[.slice (some ⟨b,0,none⟩) k c,.slice (some ⟨vb,0,none⟩) 1 vc]).run Tryz.prog w=.ok (.slice (some ⟨w.heap.size,0,none⟩) (k+1) G) (w.drew.alloc (.cells row 33)):=by rw [hrow,hG];exact hrun0
    have hG1:k+1≤G:=by rw [hG];exact grownCap_ge w _ _ _
    have hG2:G≤maxLen:=by rw [hG];exact grownCap_le_maxLen w _ _ _ (by unfold maxLen;omega)
    have hr1:row.size=G * 5:=by rw [hrow,Qzc,size_zeroCells,hzc,Qzh,Qzb,hvl,hcl];omega
    have hr2:row.toList.take ((k+1) * 5)=cs.take (k * 5)++vs++cs.drop (k * 5):=by
     rw [hw,hrow,Qy9,Qy7 (by simp only [Qzb,hvl,hcl];omega),Qy6 (by simp only [Qzb,hvl,hcl];omega)]
    clear hrow hG hrun0 hsrc hvs hvc' hzl hcc hcs hold
    go_enter Tryz.func156,Tryz.ntmps156
    go_wp2_with (at_builtin;refine Lib.wpList_append_run _ rfl _ _ _ _ rfl _ _ rfl rfl _ _ (hrun _) ?_)
    go_ret
    exact QeN hr1 hr2 hG1 hG2
  ·have hk':k < n:=by omega
   have hz2:¬ ((k:Int)=(n:Int)):=by omega
   have hdl:(cs.drop (k * 5)).length=(n - k) * 5:=by rw [Qy3,hcl];omega
   have hw1:IntKind.i64.wrap ((k:Int)+1)=(k:Int)+1:=by rw [IntKind.wrap_i64];omega
   have hc63:c≤9223372036854775807:=hcm;have hb1:(0:Int)≤(k:Int)+1:=by omega
   have htn:((k:Int)+1).toNat=k+1:=by omega
   have hb3:(k:Int)≤(n:Int)+1:=by omega
   have hb4:¬ (c=k):=by omega
   by_cases hroom:n+1≤c
   ·have hb2:¬ (c=k+1):=by omega
    have hsp:∀ j,j < (n+1) * 5→(w.cell? ⟨b,j,none⟩).isSome=true:=fun j hj=>by
     rw [cell_of_row w b j cur _ _ hbk,Qy5 (by rw [hcz];omega)];rfl
    have hfz:∀ j,w.frozen? ⟨b,j,none⟩=false:=fun j=>by unfold World.frozen?;simp only [hbk];simp
    have hov:∀ lb cb,(callFunc 188 #[.slice (some ⟨vb,0,none⟩) 1 vc,.slice (some ⟨b,(k+1) * 5,none⟩) lb cb]).run Tryz.prog w=.ok (.value (.bool false)) w:=fun lb cb=>by
     rw [run_callFunc_extern Tryz.func188 (by kernel_rfl) (by kernel_rfl) (by kernel_rfl) (e:=Extern.SlicesOverlaps.overlaps #[23,23] #[4]) (by kernel_rfl),
      Lib.run_overlaps_apart w 23 4 33 ht 5 (fun w=>QA hsz w) ⟨vb,0,none⟩ ⟨b,(k+1) * 5,none⟩ 1 vc lb cb (Ne.symm hne) 33 33 vcur.size cur.size (by unfold World.shape?;simp only [hvb]) (by unfold World.shape?;simp only [hbk]) (by rw [hcz];omega) (by unfold World.frozen?;simp only [hvb];simp) (by unfold World.frozen?;simp only [hvb];simp)]
     rfl
    have hm1:Qzk (n+1 - k) (n - k)=n - k:=Nat.min_eq_right (by omega);have hm2:Qzk 1 (n+1 - k)=1:=Qza (by omega)
    have hcp1:∀ ty dc sc,(Builtin.copy_ #[23,23] ty #[.slice (some ⟨b,(k+1) * 5,none⟩) (n - k) dc,.slice (some ⟨b,k * 5,none⟩) (n+1 - k) sc]).run Tryz.prog w.drew=.ok (goInt (n - k:Nat)) (w.drew.setCells b ((k+1) * 5) (cs.drop (k * 5))):=fun ty dc sc=>by
     have:=Wv (P:=Tryz.prog) w.drew 23 23 ty 33 5 b ((k+1) * 5) (n - k) dc ⟨b,k * 5,none⟩ (n+1 - k) sc (cs.drop (k * 5)) ht hsz (by rw [Qy3,hcl,hm1];omega)
      (fun j v hj=>by rw [Addr.add_mid];exact hcc _ v (by rwa [Qzm] at hj))
      (fun j hj=>hsp _ (by rw [Qy3,hcl] at hj;omega)) (fun j hj=>hfz _) (fun v hv=>h1c v (Qzl hv))
     rwa [hm1] at this
    obtain ⟨W1,hW1⟩:∃ W1,W1=w.drew.setCells b ((k+1) * 5) (cs.drop (k * 5)):=⟨_,rfl⟩
    have hsp1:∀ j,j < (n+1) * 5→(W1.cell? ⟨b,j,none⟩).isSome=true:=fun j hj=>by
     obtain ⟨cur',c1,c2,_⟩:=QT b (cs.drop (k * 5)) ((k+1) * 5) w.drew cur _ _ hbk;rw [hW1,cell_of_row _ b j cur' _ _ c1,Qy5 (by rw [c2,hcz];omega)];rfl
    have hcp2:∀ (W:World),(∀ x,W.cell? x=W1.cell? x)→(∀ x,W.frozen? x=W1.frozen? x) → ∀ ty dc,(Builtin.copy_ #[23,23] ty #[.slice (some ⟨b,k * 5,none⟩) (n+1 - k) dc,.slice (some ⟨vb,0,none⟩) 1 vc]).run Tryz.prog W=.ok (goInt 1) (W.setCells b (k * 5) vs):=fun W hWc hWf ty dc=>by
     have:=Wv (P:=Tryz.prog) W 23 23 ty 33 5 b (k * 5) (n+1 - k) dc ⟨vb,0,none⟩ 1 vc vs ht hsz (by rw [hvl,hm2])
      (fun j v hj=>by
       rw [Addr.add_mid,hWc,hW1,World.cell?_setCells_out b _ _ _ _ (fun h _=>absurd h (Ne.symm hne))];have:=hvc' j v hj
       rwa [Addr.add_mid] at this)
      (fun j hj=>by rw [hWc];exact hsp1 _ (by omega)) (fun j hj=>by rw [hWf,hW1,World.frozen?_setCells];exact hfz _) h1v
     rwa [hm2] at this
    have hlist:(QD (QD cur.toList ((k+1) * 5) (cs.drop (k * 5))) (k * 5) vs).take ((n+1) * 5)=cs.take (k * 5)++vs++cs.drop (k * 5):=by
     have hdl2:(cs.drop (k * 5)).length=n * 5 - (k * 5):=by rw [Qy3,hcl]
     have:=QhL cur.toList vs (cs.drop (k * 5)) (k * 5) (by rw [hcl',hvl,hdl2];omega);have e1:k * 5=k * 5:=by omega
     have e2:(k+1) * 5=k * 5+5:=by omega
     have e3:cur.toList.take (k * 5)=cs.take (k * 5):=by rw [hcs,List.take_take,Qza (by omega)]
     rw [hvl,hdl2,show k * 5+5+(n * 5 - (k * 5))=(n+1) * 5 from by omega,e3] at this;rw [e1,e2];exact this
    rw [← hW1] at hcp1;have hWo:=Lib.hid hW1;clear hsrc hvs hvc' hzl hcc hcs hW1 hsp hfz hsp1
    go_enter Tryz.func156,Tryz.ntmps156
    go_wp2_with (simp only [hov])
    go_region_law_o (refine step_copy_runI rfl _ _ 23 23 rfl _ _ (by simp [Act.eval,Act.put]) (by simp [Act.eval,Act.put]) (hcp1 _ _ _) ?_)
    go_wp2_with (at_builtin;refine wpList_copy_runI _ rfl _ _ 23 23 rfl _ _ rfl rfl (hcp2 _ (fun _=>rfl) (fun _=>rfl) _ _) ?_)
    go_ret
    exact Qbm (w0:=w.drew) (w1:=W1) hbk ⟨rfl,rfl,rfl⟩ (Qzf _) (fun _ _ _=>rfl) hWo.out (by first | exact .inl rfl | exact .inr rfl) hcz (by first | exact hlist | (simp only [Qzj,Qzi] at hlist ⊢;exact hlist)) hroom hcm (.inr ⟨c,rfl⟩)
   ·have hkk:(n:Int)+1 - (k:Int)=((n+1 - k:Nat):Int):=by omega
    have hik:k+(n+1 - k)=n+1:=by omega
    have hz3:(c:Int) < (n:Int)+1:=by omega
    have hold:(Builtin.firstCells i0.size k (.slice (some ⟨b,0,none⟩) k c)).run Tryz.prog w.drew=.ok (cs.take (k * 5)).toArray w.drew:=run_firstCells_some w.drew i0.size k ⟨b,0,none⟩ k c (cs.take (k * 5)) (by rw [hzs,Qy4,hcl];omega) (fun j v hj=>by
     rw [Addr.add_mid,Qze];rw [Qzg] at hj;split at hj
     ·exact hcc j v hj
     ·cases hj)
    have htI:Tryz.prog.underlying 3=some (.int .i64):=Tryz.underlying3;obtain ⟨G,hG⟩:∃ G,G=grownCap w (n+1) c 33:=⟨_,rfl⟩;obtain ⟨row,hrow⟩:∃ row:Array Value,row=(cs.take (k * 5)).toArray++Builtin.zeroCells z0.cells (n+1 - k)++Builtin.zeroCells z0.cells (G - (n+1)):=⟨_,rfl⟩
    have hrz:∀ ty,(Builtin.append_ #[23,3] ty #[.slice (some ⟨b,0,none⟩) k c,.int .i64 ((n:Int)+1 - (k:Int))]).run Tryz.prog w=.ok (.slice (some ⟨w.heap.size,0,none⟩) (n+1) G) (w.drew.alloc (.cells row 33)):=fun ty=>by
     have h:=Lib.run_append_grow_zeros (P:=Tryz.prog) w 23 3 ty 33 i0 z0 .i64 .i64 ht htI hi0 hz0 (some ⟨b,0,none⟩) k c _ hold (n+1 - k) (by omega) (by omega) (by omega) (by omega) (by rw [hby];omega) (by rw [hby,hik];exact growslice_fits (by omega) (by omega));rw [hik,← hG,← hrow] at h;rw [hkk];exact h
    have hGn:n+1≤G:=by rw [hG];exact grownCap_ge w _ _ _
    have hG2:G≤maxLen:=by rw [hG];exact grownCap_le_maxLen w _ _ _ (by unfold maxLen;omega)
    have hG63:G≤9223372036854775807:=hG2;have hr1:row.size=G * 5:=by rw [hrow,Qzc,Qzc,size_zeroCells,size_zeroCells,hzc,Qzh,Qy4,hcl];omega
    have hrt:row.toList.take (k * 5)=cs.take (k * 5):=by
     rw [hrow,Qy9,Qy9,Qzi,Qy7 (by rw [Qy4,hcl];omega)];exact Qy6 (by rw [Qy4,hcl];omega)
    obtain ⟨W1,hW1⟩:∃ W1,W1=w.drew.alloc (.cells row 33):=⟨_,rfl⟩;rw [← hW1] at hrz
    have hN:∀ j,j < (n+1) * 5→(W1.cell? ⟨w.heap.size,j,none⟩).isSome=true:=fun j hj=>by
     have hjr:j < row.size:=by rw [hr1];omega
     rw [hW1,World.cell?_alloc_at (w:=w.drew) row _ w.heap.size j rfl,Qy5 hjr];rfl
    have hNf:∀ j,W1.frozen? ⟨w.heap.size,j,none⟩=false:=fun j=>by rw [hW1];exact World.frozen?_alloc_at (w:=w.drew) row _ w.heap.size j rfl
    have hOb:∀ j v,w.cell? ⟨b,j,none⟩=some v→W1.cell? ⟨b,j,none⟩=some v:=fun j v h=>by rw [hW1,World.cell?_alloc_past (w:=w.drew) _ b j hlt];exact h
    have hOv:∀ j v,w.cell? ⟨vb,j,none⟩=some v→W1.cell? ⟨vb,j,none⟩=some v:=fun j v h=>by rw [hW1,World.cell?_alloc_past (w:=w.drew) _ vb j hvlt];exact h
    have hm1:Qzk (n - k) (n+1 - (k+1))=n - k:=Qza (by omega);have hm2:Qzk 1 (n+1 - k)=1:=Qza (by omega);have hbN:b≠w.heap.size:=by omega
    have hcpA:∀ (W:World),(∀ x,W.cell? x=W1.cell? x)→(∀ x,W.frozen? x=W1.frozen? x) → ∀ ty dc,(Builtin.copy_ #[23,23] ty #[.slice (some ⟨w.heap.size,k * 5,none⟩) (n+1 - k) dc,.slice (some ⟨vb,0,none⟩) 1 vc]).run Tryz.prog W=.ok (goInt 1) (W.setCells w.heap.size (k * 5) vs):=fun W hWc hWf ty dc=>by
     have:=Wv (P:=Tryz.prog) W 23 23 ty 33 5 w.heap.size (k * 5) (n+1 - k) dc ⟨vb,0,none⟩ 1 vc vs ht hsz (by rw [hvl,hm2])
      (fun j v hj=>by rw [Addr.add_mid,hWc];exact hOv _ v (by have:=hvc' j v hj;rwa [Addr.add_mid] at this))
      (fun j hj=>by rw [hWc];exact hN _ (by omega)) (fun j hj=>by rw [hWf];exact hNf _) h1v
     rwa [hm2] at this
    have hcpB:∀ (W:World),(∀ x,W.cell? x=(W1.setCells w.heap.size (k * 5) vs).cell? x)→(∀ x,W.frozen? x=(W1.setCells w.heap.size (k * 5) vs).frozen? x) → ∀ ty dc sc,(Builtin.copy_ #[23,23] ty #[.slice (some ⟨w.heap.size,(k+1) * 5,none⟩) (n - k) dc,.slice (some ⟨b,k * 5,none⟩) (n - k) sc]).run Tryz.prog W=.ok (goInt (n - k:Nat)) (W.setCells w.heap.size ((k+1) * 5) (cs.drop (k * 5))):=fun W hWc hWf ty dc sc=>by
     have:=Wv (P:=Tryz.prog) W 23 23 ty 33 5 w.heap.size ((k+1) * 5) (n - k) dc ⟨b,k * 5,none⟩ (n - k) sc (cs.drop (k * 5)) ht hsz (by rw [Qy3,hcl,show Qzk (n - k) (n - k)=n - k from Qzq _];omega)
      (fun j v hj=>by
       rw [Addr.add_mid,hWc,World.cell?_setCells_out _ _ _ _ _ (fun h _=>absurd h hbN)]
       exact hOb _ v (hcc _ v (by rwa [Qzm] at hj)))
      (fun j hj=>by rw [hWc];exact isSome_setCells _ _ _ _ (fun t ht=>hN _ (by rw [hvl] at ht;omega)) _ (hN _ (by rw [Qy3,hcl] at hj;omega)))
      (fun j hj=>by rw [hWf,World.frozen?_setCells];exact hNf _) (fun v hv=>h1c v (Qzl hv))
     rwa [show Qzk (n - k) (n - k)=n - k from Qzq _] at this
    have hlist:(QD (QD row.toList (k * 5) vs) ((k+1) * 5) (cs.drop (k * 5))).take ((n+1) * 5)=cs.take (k * 5)++vs++cs.drop (k * 5):=by
     have hdl2:(cs.drop (k * 5)).length=n * 5 - (k * 5):=by rw [Qy3,hcl]
     have hrl:row.toList.length=G * 5:=by rw [Qy8];exact hr1
     have:=Qlt row.toList vs (cs.drop (k * 5)) (k * 5) (by rw [hrl,hvl,hdl2];omega);have e1:k * 5=k * 5:=by omega
     have e2:(k+1) * 5=k * 5+5:=by omega
     rw [hvl,hdl2,show k * 5+5+(n * 5 - (k * 5))=(n+1) * 5 from by omega,hrt] at this;rw [e1,e2];exact this
    have hGi:¬ (G=k):=by omega
    have hGim:¬ (G=k+1):=by omega
    have hb5:(k:Int)≤(n:Int):=by omega
    have hn1:n+1 - (k+1)=n - k:=by omega
    clear hsrc hvs hvc' hzl hcc hcs hrow hG hold hrt hN hNf hOb hOv hkk hik;subst hW1;have hE1:∀ x,((w.alloc (.cells row 33)).drew).cell? x=(w.drew.alloc (.cells row 33)).cell? x:=fun x=>rfl;have hE2:∀ x,((w.alloc (.cells row 33)).drew).frozen? x=(w.drew.alloc (.cells row 33)).frozen? x:=fun x=>rfl;have hF1:∀ x,(((w.alloc (.cells row 33)).drew.setCells w.heap.size (k * 5) vs).drew).cell? x=((w.drew.alloc (.cells row 33)).setCells w.heap.size (k * 5) vs).cell? x:=fun x=>rfl;have hF2:∀ x,(((w.alloc (.cells row 33)).drew.setCells w.heap.size (k * 5) vs).drew).frozen? x=((w.drew.alloc (.cells row 33)).setCells w.heap.size (k * 5) vs).frozen? x:=fun x=>rfl
    go_enter Tryz.func156,Tryz.ntmps156
    go_wp2_with (first
     | (at_builtin;refine Lib.wpList_append_run _ rfl _ _ _ _ rfl _ _ rfl rfl _ _ (hrz _) ?_)
     | (at_builtin;refine wpList_copy_runI _ rfl _ _ 23 23 rfl _ _ rfl rfl (hcpA _ hE1 hE2 _ _) ?_))
    go_region_law_o (refine step_copy_runI rfl _ _ 23 23 rfl (.slice (some ⟨w.heap.size,(k+1) * 5,none⟩) (n - k) (G - (k+1))) (.slice (some ⟨b,k * 5,none⟩) (n - k) (c - k)) (by simp [Act.eval,Act.put]) (by simp [Act.eval,Act.put]) (hcpB _ hF1 hF2 3 (G - (k+1)) (c - k)) ?_)
    go_wp2
    go_ret
    exact Qbm (w0:=w.drew.alloc (.cells row 33)) (w1:=(w.drew.alloc (.cells row 33)).setCells w.heap.size (k * 5) vs) (heap_alloc_new w.drew _) ⟨rfl,rfl,rfl⟩ (by simp) (fun x _ hx=>Below.heap_alloc _ _ _ hx) rfl (by first | exact .inr rfl | exact .inl rfl) hr1 (by first | exact hlist | (simp only [Qzj,Qzi] at hlist ⊢;exact hlist)) hGn hG2 (.inl (Qzf _))
end
end Go.Proofs.YtcebndkiagbddaaGreatDoor
