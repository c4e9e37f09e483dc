/- A part of the proof: contracts of functions and what they stand on. Written shorter and merged by a program (pack.py). -/
import Derived.Test.YtcebndkiagbddaaGreatDoorProg
import Derived.Test.YtcebndkiagbddaaGreatDoorRows
import Derived.Laws.AppendOwnNone
import Derived.WalkKit
import Derived.ProofKit
import Derived.OpenShut
import Derived.ShutString
import Derived.ChangeOld
import Derived.Below
import Derived.Lib.SmallJoins
import Derived.SliceStrings
import Derived.Test.YtcebndkiagbddaaGreatDoorK16
set_option linter.unusedVariables false
set_option linter.unusedSimpArgs false
set_option maxRecDepth 100000
set_option maxHeartbeats 4000000
open List renaming setIfInBounds_toArray → Qy3, getElem_cons_zero → Qy4, getElem_cons_succ → Qy5, getElem_toArray → Qy6, replicate → Qy7, set → Qzb, range → Qze
open Int renaming toNat_natCast → Qy8, eq_ofNat_of_zero_le → Qzc, emod_lt_of_pos → Qzd
open Nat renaming le_refl → Qy9, mul_comm → Qzf
open Bool renaming noConfusion → Qza
namespace Go.Proofs.YtcebndkiagbddaaGreatDoor
section
theorem tiM {T:TypeId} {i:TI} (e:TypeId:=0) (a:WB Tryz.prog T=some i.agg:=by kernel_rfl) (b:Z1 Tryz.prog T=some i.sz:=by kernel_rfl)
  (c:∀ z,i.ze=some z→Qms Tryz.prog T=some z∧z.all (·.oneCell')=true:=by intro z h;cases h <;> exact ⟨by kernel_rfl,by kernel_rfl⟩)
  (d:∀ k,i.k=.int k→Tryz.prog.underlying T=some (.int k):=by intro k h;cases h <;> kernel_rfl)
  (f:i.k=.ptr→Tryz.prog.underlying T=some (.pointer e):=by intro h;cases h <;> kernel_rfl)
  (g:∀ l,i.ks=some l→Vz Tryz.prog 20 T=some l∧Tryz.prog.eqGuardType Tryz.prog.depth T=false:=by intro l h;cases h <;> exact ⟨by kernel_rfl,by kernel_rfl⟩)
  (s:i.k=.str→Tryz.prog.underlying T=some .string:=by intro h;cases h <;> kernel_rfl)
  (l:i.k=.bool→Tryz.prog.underlying T=some .bool:=by intro h;cases h <;> kernel_rfl)
  (m:∀ e sz b z,i.k=.sl e sz b z→Tryz.prog.underlying T=some (.slice e)∧Jz Tryz.prog T=some (e,sz)∧Qdm Tryz.prog T=some (e,sz,b,z)∧0 < sz∧z.all (·.oneCell')=true:=by intro e s b z h;cases h <;> exact ⟨by kernel_rfl,by kernel_rfl,by kernel_rfl,by decide,by kernel_rfl⟩)
  (n:∀ pl,i.k=.st pl→Qdh Tryz.prog T=some (pl.map fun p=>(p.1,p.2.1)):=by intro p h;cases h <;> kernel_rfl)
  (o:∀ pl,i.k=.st pl→stNA Tryz.prog T pl=true:=by intro p h;cases h <;> kernel_rfl)
  (mp:∀ K V,i.k=.mp K V→MapT Tryz.prog T K V:=by intro K V h;cases h)
  (q:∀ n s e,i.k=.ar n s e→Qj4 Tryz.prog T=some (n,s)∧Tryz.prog.underlying T=some (.array n e)∧Z1 Tryz.prog e=some s:=by intro n s e h;cases h <;> exact ⟨by kernel_rfl,by kernel_rfl,by kernel_rfl⟩):TIok Tryz.prog T i :=
 ⟨a,b,c,d,fun h=>⟨e,f h⟩,g,s,l,m,n,o,mp,q⟩
def Qlb:TT:=(.node 140 ⟨.int .u64,false,1,(some [.int .u64 0]),none⟩ (.node 34 ⟨.int .u32,false,1,(some [.int .u32 0]),none⟩ (.node 21 ⟨.int .i32,false,1,(some [.int .i32 0]),none⟩ (.node 6 ⟨.int .u8,false,1,(some [.int .u8 0]),none⟩ (.node 4 ⟨.bool,false,1,(some [.bool false]),none⟩ (.node 3 ⟨.int .i64,false,1,(some [.int .i64 0]),none⟩ (.node 2 ⟨.int .i64,false,1,(some [.int .i64 0]),none⟩ .leaf .leaf) .leaf) (.node 5 ⟨.int .u8,false,1,(some [.int .u8 0]),none⟩ .leaf .leaf)) (.node 9 ⟨.str,false,1,(some [.string ⟨#[]⟩]),none⟩ (.node 7 ⟨.st [(0,1,true),(1,1,true),(2,1,true),(3,1,true)],true,4,(some [.int .i64 0,.int .i64 0,.bool false,.int .u8 0]),(some [.i .i64,.i .i64,.b,.i .u8])⟩ .leaf .leaf) (.node 11 ⟨.str,false,1,(some [.string ⟨#[]⟩]),none⟩ .leaf .leaf))) (.node 27 ⟨.sl 94 4 40 [.int .u32 0,.int .i64 0,.string ⟨#[]⟩,.int .i64 0],false,1,(some [.slice none 0 0]),none⟩ (.node 23 ⟨.sl 33 5 80 [.string ⟨#[]⟩,.string ⟨#[]⟩,.string ⟨#[]⟩,.int .i64 0,.slice none 0 0],false,1,(some [.slice none 0 0]),none⟩ (.node 22 ⟨.sl 44 4 40 [.int .i64 0,.int .i64 0,.int .i64 0,.string ⟨#[]⟩],false,1,(some [.slice none 0 0]),none⟩ .leaf .leaf) (.node 25 ⟨.st [(0,1,true),(1,1,true),(2,1,true)],true,3,(some [.string ⟨#[]⟩,.int .i64 0,.slice none 0 0]),none⟩ .leaf .leaf)) (.node 31 ⟨.sl 36 2 16 [.int .u32 0,.int .i64 0],false,1,(some [.slice none 0 0]),none⟩ (.node 28 ⟨.int .i64,false,1,(some [.int .i64 0]),none⟩ .leaf .leaf) (.node 33 ⟨.st [(0,1,true),(1,1,true),(2,1,true),(3,1,true),(4,1,true)],true,5,(some [.string ⟨#[]⟩,.string ⟨#[]⟩,.string ⟨#[]⟩,.int .i64 0,.slice none 0 0]),none⟩ .leaf .leaf)))) (.node 96 ⟨.sl 9 1 16 [.string ⟨#[]⟩],false,1,(some [.slice none 0 0]),none⟩ (.node 66 ⟨.st [(0,1,true),(1,1,true),(2,3,false),(5,1,true),(6,1,true)],true,7,(some [.bool false,.slice none 0 0,.string ⟨#[]⟩,.int .i64 0,.slice none 0 0,.string ⟨#[]⟩,.int .i64 0]),none⟩ (.node 48 ⟨.st [(0,1,true),(1,1,true),(2,1,true),(3,2,false)],true,5,(some [.int .i64 0,.string ⟨#[]⟩,.int .i64 0,.int .u32 0,.int .i64 0]),(some [.i .i64,.s,.i .i64,.i .u32,.i .i64])⟩ (.node 44 ⟨.st [(0,1,true),(1,1,true),(2,1,true),(3,1,true)],true,4,(some [.int .i64 0,.int .i64 0,.int .i64 0,.string ⟨#[]⟩]),(some [.i .i64,.i .i64,.i .i64,.s])⟩ (.node 36 ⟨.st [(0,1,true),(1,1,true)],true,2,(some [.int .u32 0,.int .i64 0]),(some [.i .u32,.i .i64])⟩ .leaf .leaf) .leaf) (.node 49 ⟨.sl 48 5 48 [.int .i64 0,.string ⟨#[]⟩,.int .i64 0,.int .u32 0,.int .i64 0],false,1,(some [.slice none 0 0]),none⟩ .leaf .leaf)) (.node 83 ⟨.st [(0,3,false),(3,1,true),(4,1,true),(5,7,false),(12,1,true),(13,1,true),(14,1,true)],true,15,(some [.string ⟨#[]⟩,.int .i64 0,.slice none 0 0,.slice none 0 0,.slice none 0 0,.bool false,.slice none 0 0,.string ⟨#[]⟩,.int .i64 0,.slice none 0 0,.string ⟨#[]⟩,.int .i64 0,.int .i64 0,.int .i64 0,.int .i64 0]),none⟩ (.node 81 ⟨.sl 151 41 416 [.string ⟨#[]⟩,.string ⟨#[]⟩,.bool false,.string ⟨#[]⟩,.string ⟨#[]⟩,.int .i64 0,.int .i64 0,.int .i64 0,.int .i64 0,.bool false,.int .i64 0,.int .u64 0,.bool false,.bool false,.string ⟨#[]⟩,.string ⟨#[]⟩,.int .i64 0,.int .i64 0,.int .i64 0,.int .i64 0,.bool false,.int .i64 0,.int .u64 0,.bool false,.bool false,.string ⟨#[]⟩,.string ⟨#[]⟩,.int .i64 0,.int .i64 0,.int .i64 0,.int .i64 0,.bool false,.int .i64 0,.int .u64 0,.bool false,.bool false,.int .i64 0,.string ⟨#[]⟩,.int .i64 0,.int .i64 0,.slice none 0 0],false,1,(some [.slice none 0 0]),none⟩ .leaf .leaf) (.node 94 ⟨.st [(0,2,false),(2,1,true),(3,1,true)],true,4,(some [.int .u32 0,.int .i64 0,.string ⟨#[]⟩,.int .i64 0]),(some [.i .u32,.i .i64,.s,.i .i64])⟩ .leaf .leaf))) (.node 118 ⟨.sl 3 1 8 [.int .i64 0],false,1,(some [.slice none 0 0]),none⟩ (.node 107 ⟨.ar 2 1 105,true,2,(some [.pointer none,.pointer none]),none⟩ (.node 105 ⟨.ptr,false,1,(some [.pointer none]),none⟩ .leaf .leaf) (.node 109 ⟨.st [(0,2,false),(2,1,true),(3,2,false)],true,5,(some [.int .u32 0,.int .i64 0,.string ⟨#[]⟩,.pointer none,.pointer none]),none⟩ .leaf .leaf)) (.node 133 ⟨.ar 2 3 25,true,6,(some [.string ⟨#[]⟩,.int .i64 0,.slice none 0 0,.string ⟨#[]⟩,.int .i64 0,.slice none 0 0]),none⟩ (.node 121 ⟨.ptr,false,1,(some [.pointer none]),none⟩ .leaf .leaf) (.node 138 ⟨.sl 34 1 4 [.int .u32 0],false,1,(some [.slice none 0 0]),none⟩ .leaf .leaf))))) (.node 249 ⟨.ar 11 1 9,true,11,(some (Qy7 11 (.string ⟨#[]⟩))),none⟩ (.node 161 ⟨.ar 3 1 28,true,3,(some [.int .i64 0,.int .i64 0,.int .i64 0]),none⟩ (.node 149 ⟨.sl 157 3 32 [.int .u32 0,.int .u32 0,.slice none 0 0],false,1,(some [.slice none 0 0]),none⟩ (.node 146 ⟨.st [(0,11,false),(11,11,false),(22,11,false)],true,33,(some [.bool false,.string ⟨#[]⟩,.string ⟨#[]⟩,.int .i64 0,.int .i64 0,.int .i64 0,.int .i64 0,.bool false,.int .i64 0,.int .u64 0,.bool false,.bool false,.string ⟨#[]⟩,.string ⟨#[]⟩,.int .i64 0,.int .i64 0,.int .i64 0,.int .i64 0,.bool false,.int .i64 0,.int .u64 0,.bool false,.bool false,.string ⟨#[]⟩,.string ⟨#[]⟩,.int .i64 0,.int .i64 0,.int .i64 0,.int .i64 0,.bool false,.int .i64 0,.int .u64 0,.bool false]),(some [.b,.s,.s,.i .i64,.i .i64,.i .i64,.i .i64,.b,.i .i64,.i .u64,.b,.b,.s,.s,.i .i64,.i .i64,.i .i64,.i .i64,.b,.i .i64,.i .u64,.b,.b,.s,.s,.i .i64,.i .i64,.i .i64,.i .i64,.b,.i .i64,.i .u64,.b])⟩ (.node 144 ⟨.st [(0,1,true),(1,1,true),(2,1,true),(3,1,true),(4,1,true),(5,1,true),(6,1,true),(7,3,false),(10,1,true)],true,11,(some [.bool false,.string ⟨#[]⟩,.string ⟨#[]⟩,.int .i64 0,.int .i64 0,.int .i64 0,.int .i64 0,.bool false,.int .i64 0,.int .u64 0,.bool false]),(some [.b,.s,.s,.i .i64,.i .i64,.i .i64,.i .i64,.b,.i .i64,.i .u64,.b])⟩ (.node 142 ⟨.st [(0,1,true),(1,1,true),(2,1,true)],true,3,(some [.bool false,.int .i64 0,.int .u64 0]),(some [.b,.i .i64,.i .u64])⟩ .leaf .leaf) .leaf) (.node 148 ⟨.st [(0,1,true),(1,1,true),(2,1,true),(3,1,true),(4,1,true)],true,5,(some [.bool false,.int .i64 0,.string ⟨#[]⟩,.int .i64 0,.int .i64 0]),(some [.b,.i .i64,.s,.i .i64,.i .i64])⟩ .leaf .leaf)) (.node 155 ⟨.sl 5 1 1 [.int .u8 0],false,1,(some [.slice none 0 0]),none⟩ (.node 151 ⟨.st [(0,1,true),(1,1,true),(2,33,false),(35,5,false),(40,1,true)],true,41,(some [.string ⟨#[]⟩,.string ⟨#[]⟩,.bool false,.string ⟨#[]⟩,.string ⟨#[]⟩,.int .i64 0,.int .i64 0,.int .i64 0,.int .i64 0,.bool false,.int .i64 0,.int .u64 0,.bool false,.bool false,.string ⟨#[]⟩,.string ⟨#[]⟩,.int .i64 0,.int .i64 0,.int .i64 0,.int .i64 0,.bool false,.int .i64 0,.int .u64 0,.bool false,.bool false,.string ⟨#[]⟩,.string ⟨#[]⟩,.int .i64 0,.int .i64 0,.int .i64 0,.int .i64 0,.bool false,.int .i64 0,.int .u64 0,.bool false,.bool false,.int .i64 0,.string ⟨#[]⟩,.int .i64 0,.int .i64 0,.slice none 0 0]),none⟩ .leaf .leaf) (.node 157 ⟨.st [(0,1,true),(1,1,true),(2,1,true)],true,3,(some [.int .u32 0,.int .u32 0,.slice none 0 0]),none⟩ .leaf .leaf))) (.node 202 ⟨.ptr,false,1,(some [.pointer none]),none⟩ (.node 192 ⟨.sl 196 2 32 [.string ⟨#[]⟩,.string ⟨#[]⟩],false,1,(some [.slice none 0 0]),none⟩ (.node 167 ⟨.int .u64,false,1,(some [.int .u64 0]),none⟩ .leaf .leaf) (.node 196 ⟨.st [(0,1,true),(1,1,true)],true,2,(some [.string ⟨#[]⟩,.string ⟨#[]⟩]),(some [.s,.s])⟩ .leaf .leaf)) (.node 218 ⟨.ar 5 1 3,true,5,(some (Qy7 5 (.int .i64 0))),none⟩ (.node 204 ⟨.st [(0,1,true),(1,1,true)],true,2,(some [.pointer none,.slice none 0 0]),none⟩ .leaf .leaf) (.node 222 ⟨.int .i64,false,1,(some [.int .i64 0]),none⟩ .leaf .leaf)))) (.node 287 ⟨.ar 2 1 9,true,2,(some [.string ⟨#[]⟩,.string ⟨#[]⟩]),none⟩ (.node 268 ⟨.ptr,false,1,(some [.pointer none]),none⟩ (.node 260 ⟨.ar 3 11 144,true,33,(some [.bool false,.string ⟨#[]⟩,.string ⟨#[]⟩,.int .i64 0,.int .i64 0,.int .i64 0,.int .i64 0,.bool false,.int .i64 0,.int .u64 0,.bool false,.bool false,.string ⟨#[]⟩,.string ⟨#[]⟩,.int .i64 0,.int .i64 0,.int .i64 0,.int .i64 0,.bool false,.int .i64 0,.int .u64 0,.bool false,.bool false,.string ⟨#[]⟩,.string ⟨#[]⟩,.int .i64 0,.int .i64 0,.int .i64 0,.int .i64 0,.bool false,.int .i64 0,.int .u64 0,.bool false]),none⟩ (.node 257 ⟨.ptr,false,1,(some [.pointer none]),none⟩ .leaf .leaf) (.node 264 ⟨.int .u64,false,1,(some [.int .u64 0]),none⟩ .leaf .leaf)) (.node 279 ⟨.ar 24 1 5,true,24,(some (Qy7 24 (.int .u8 0))),none⟩ (.node 270 ⟨.ar 2 2 36,true,4,(some [.int .u32 0,.int .i64 0,.int .u32 0,.int .i64 0]),none⟩ .leaf .leaf) (.node 283 ⟨.other,false,1,(some [.pointer none]),none⟩ .leaf .leaf))) (.node 304 ⟨.ar 64 1 5,true,64,(some (Qy7 64 (.int .u8 0))),none⟩ (.node 295 ⟨.ar 65 1 5,true,65,(some (Qy7 65 (.int .u8 0))),none⟩ (.node 294 ⟨.ar 20 1 140,true,20,(some (Qy7 20 (.int .u64 0))),none⟩ .leaf .leaf) (.node 303 ⟨.ar 32 1 5,true,32,(some (Qy7 32 (.int .u8 0))),none⟩ .leaf .leaf)) (.node 307 ⟨.st [(0,1,true),(1,1,true)],true,2,(some [.int .u8 0,.int .u8 0]),(some [.i .u8,.i .u8])⟩ (.node 305 ⟨.ar 256 1 5,true,256,none,none⟩ .leaf .leaf) (.node 308 ⟨.ar 16 2 307,true,32,(some (Qy7 32 (.int .u8 0))),none⟩ .leaf .leaf))))))
theorem QbU:Qlb.ok Tryz.prog:=⟨tiM,⟨tiM,⟨tiM,⟨tiM,⟨tiM,⟨tiM,⟨tiM,trivial,trivial⟩,trivial⟩,⟨tiM,trivial,trivial⟩⟩,⟨tiM,⟨tiM,trivial,trivial⟩,⟨tiM,trivial,trivial⟩⟩⟩,⟨tiM,⟨tiM,⟨tiM,trivial,trivial⟩,⟨tiM,trivial,trivial⟩⟩,⟨tiM,⟨tiM,trivial,trivial⟩,⟨tiM,trivial,trivial⟩⟩⟩⟩,⟨tiM,⟨tiM,⟨tiM,⟨tiM,⟨tiM,trivial,trivial⟩,trivial⟩,⟨tiM,trivial,trivial⟩⟩,⟨tiM,⟨tiM,trivial,trivial⟩,⟨tiM,trivial,trivial⟩⟩⟩,⟨tiM,⟨tiM,⟨tiM (e:=109),trivial,trivial⟩,⟨tiM,trivial,trivial⟩⟩,⟨tiM,⟨tiM (e:=25),trivial,trivial⟩,⟨tiM,trivial,trivial⟩⟩⟩⟩⟩,⟨tiM,⟨tiM,⟨tiM,⟨tiM,⟨tiM,⟨tiM,trivial,trivial⟩,trivial⟩,⟨tiM,trivial,trivial⟩⟩,⟨tiM,⟨tiM,trivial,trivial⟩,⟨tiM,trivial,trivial⟩⟩⟩,⟨tiM (e:=204),⟨tiM,⟨tiM,trivial,trivial⟩,⟨tiM,trivial,trivial⟩⟩,⟨tiM,⟨tiM,trivial,trivial⟩,⟨tiM,trivial,trivial⟩⟩⟩⟩,⟨tiM,⟨tiM (e:=3),⟨tiM,⟨tiM (e:=5),trivial,trivial⟩,⟨tiM,trivial,trivial⟩⟩,⟨tiM,⟨tiM,trivial,trivial⟩,⟨tiM,trivial,trivial⟩⟩⟩,⟨tiM,⟨tiM,⟨tiM,trivial,trivial⟩,⟨tiM,trivial,trivial⟩⟩,⟨tiM,⟨tiM,trivial,trivial⟩,⟨tiM,trivial,trivial⟩⟩⟩⟩⟩⟩
theorem Qs (H:Hi) {f m:Nat} {fn:Func} {c:Code} {rs:List ResultVar} {i o:List (Nat×EB)} {a:List EV} {res:EV} (hf:Tryz.prog.funcs[f]? = some fn) (hm:fn.ntmps=m)
 (h:Qf7 (fun sl=>wpR Tryz.prog (i.map (·.1)) m Qlb H D0 c (Qs8 Qlb (i.map (·.1)) rs o res) ⟨sl,i⟩) [] (slE 0 a)) (hc:Wp Tryz.prog f=true:=by kernel_rfl) (hb:fn.body=some c:=by rfl) (hr:fn.results=rs.toArray:=by rfl) (hk:Nat.ble a.length m=true:=by kernel_rfl):Cf Tryz.prog f i a o res :=
 Cf.introR Qlb H D0 hc QbU hf hm hb hr D0_ok hk h
theorem QV (H:Hi) {f m:Nat} {fn:Func} {c:Code} {rs:List ResultVar} {i o:List (Nat×EB)} {a:List EV} {res:EV} (hf:Tryz.prog.funcs[f]? = some fn) (hm:fn.ntmps=m)
 (h:Qf7 (fun sl=>wpR Tryz.prog (i.map (·.1)) m Qlb H (DR Tryz.prog (i.map (·.1)) m Qlb H) c (Qs8 Qlb (i.map (·.1)) rs o res) ⟨sl,i⟩) [] (slE 0 a)) (hc:Wp Tryz.prog f=true:=by kernel_rfl) (hb:fn.body=some c:=by rfl) (hr:fn.results=rs.toArray:=by rfl) (hk:Nat.ble a.length m=true:=by kernel_rfl):Cf Tryz.prog f i a o res :=
 Cf.introR Qlb H (DR Tryz.prog (i.map (·.1)) m Qlb H) hc QbU hf hm hb hr (DR_ok QbU (by kernel_rfl)) hk h
theorem Ql {α:Type} {p q r:α→Prop} (a:α) (k:r a) (h1:p a:=by assumption) (h2:q a:=by (simp only [SrcE.len,Nat.zero_add,List.length_append,List.length_cons,List.length_nil];omega)):∃ a,p a∧q a∧r a:=⟨a,h1,h2,k⟩
end
section
open Go.RowKit
abbrev c8 (b:UInt8):Value:=.int .u8 (b.toNat:Int)
def Qs9 (w:World) (v:Value) (l:List UInt8):Prop :=
 ∃ (a:Option Addr) (c:Nat),v=.slice a l.length c∧l.length≤c∧c≤maxLen∧(a=none→c=0) ∧
  (0 < l.length→∃ b off,a=some ⟨b,off,none⟩∧b < w.heap.size ∧ ∀ i u,l[i]? = some u→w.cell? ⟨b,off+i,none⟩=some (c8 u))
theorem Qs9.below {w w':World} {v:Value} {l:List UInt8} (h:Qs9 w v l) (hb:Below w.heap.size w w'):Qs9 w' v l:=by
 obtain ⟨a,c,h1,h2,h3,h4,h5⟩:=h;refine ⟨a,c,h1,h2,h3,h4,fun hl=>?_⟩;obtain ⟨b,off,e,hlt,hc⟩:=h5 hl;exact ⟨b,off,e,Nat.lt_of_lt_of_le hlt hb.size,fun i u hu=>by rw [hb.cell (p:=⟨b,off+i,none⟩) hlt];exact hc i u hu⟩
theorem Qs9.nil (w:World):Qs9 w (.slice none 0 0) []:=⟨none,0,rfl,Qy9 _,Nat.zero_le _,fun _=>rfl,fun h=>by simp at h⟩
section
variable {o:Oper} {a:Act} {Q:Exit→Act→World→Prop} {w:World}
end
end
section
open Go.RowKit
def Y4 (n m:Int):Int:=(if n < 0 then -(n+1) else n) % m
theorem XZ {n m:Int} (h:0 < m):0≤Y4 n m∧Y4 n m < m:=by
 unfold Y4;exact ⟨Int.emod_nonneg _ (by omega),Qzd _ h⟩
set_option maxHeartbeats 400000 in
theorem QbX (n m:Int) (w:World) (h0 : -9223372036854775808≤n) (h1:n≤9223372036854775807) (hm:0 < m) (hm1:m≤9223372036854775807) :
  Calls Tryz.prog 27 #[.int .i64 n,.int .i64 m] w fun e w'=>e=.returned (.int .i64 (Y4 n m))∧w=w':=by
 by_cases hn:n < 0
 ·have E:=Lib.hid (show Y4 n m = -((n+1).tmod m) by unfold Y4;rw [if_pos hn,← Int.neg_tmod,Int.tmod_eq_emod_of_nonneg (by omega)])
  go_enter Tryz.func27,Tryz.ntmps27
  go_wp2
  go_ret
  exact ⟨JE E.out.symm,rfl⟩
 ·have E:=Lib.hid (show Y4 n m=n % m by unfold Y4;rw [if_neg hn])
  go_enter Tryz.func27,Tryz.ntmps27
  go_wp2
  go_ret
  exact ⟨JE E.out.symm,rfl⟩
theorem QhH (n m:Int) (r:Int) (w:World) (H:Hid (Y4 n m=r)) (h0 : -9223372036854775808≤n) (h1:n≤9223372036854775807) (hm:0 < m) (hm1:m≤9223372036854775807) :
  Calls Tryz.prog 27 #[.int .i64 n,.int .i64 m] w fun e w'=>e=.returned (.int .i64 r)∧w=w' :=
 (QbX n m w h0 h1 hm hm1).mono fun _ _ ⟨a,b⟩=>⟨by rw [a,H.out],b⟩
theorem QoU (k:Nat) (w:World) (hk:k < 11) :
  Calls Tryz.prog 65 #[] w fun e w'=>e=.returned (.slice (some ⟨w.heap.size,0,none⟩) 11 11)∧Below w.heap.size w w'∧w.heap.size < w'.heap.size ∧
   w'.cell? ⟨w.heap.size,k * 2,none⟩=some (.int .u32 (Qi8 k:Int))∧w'.cell? ⟨w.heap.size,k * 2+1,none⟩=some (.int .i64 (Qnc k:Int)) :=
 (Qta w).mono fun _ _ ⟨h1,h2⟩=>by
  subst h2;refine ⟨h1,(Below.refl _ _).alloc (Qy9 _) _,by simp,?_,?_⟩
  ·rw [World.cell?_alloc_new,Qzf];exact (Qee k hk).1
  ·rw [World.cell?_alloc_new,Qzf];exact (Qee k hk).2
abbrev Qwi (kind a b:Int) (s:ByteArray):Value:=.agg #[.int .i64 kind,.int .i64 a,.int .i64 b,.string s]
abbrev J6 (n:Int):Prop:=-9223372036854775808≤n∧n≤9223372036854775807
def J7 (kind a b:Int):Nat:=if 0 < Y4 kind 4 then Qi8 (Y4 a 11).toNat else V2 (a % 4294967296).toNat (Y4 b 33).toNat
def QaH (kind a b:Int):Nat:=if 0 < Y4 kind 4 then Qnc (Y4 a 11).toNat else (Y4 b 33).toNat
set_option maxHeartbeats 800000 in
theorem Qwj (kind a b:Int) (s:ByteArray) (w:World) (h1:J6 kind) (h2:J6 a) (hp:0 < Y4 kind 4) :
  Calls Tryz.prog 23 #[Qwi kind a b s] w fun e w'=>e=.returned (Qi9 (J7 kind a b) (QaH kind a b))∧Below w.heap.size w w':=by
 obtain ⟨q,hq⟩:=Qzc (XZ (n:=a) (m:=11) (by omega)).1;have hq1:q < 11:=by have:=(XZ (n:=a) (m:=11) (by omega)).2;omega
 have EA:=Lib.hid (show J7 kind a b=Qi8 q by unfold J7;rw [if_pos hp,hq,Qy8]);have EB:=Lib.hid (show QaH kind a b=Qnc q by unfold QaH;rw [if_pos hp,hq,Qy8]);have Q:=Lib.hid hq;clear hq
 go_enter Tryz.func23,Tryz.ntmps23
 go_wp2_with (fail)
 have hw:Below w.heap.size w ((w.alloc (Obj.cells #[.int .i64 kind,.int .i64 a,.int .i64 b,.string s] 44)).alloc (Obj.cells #[.int .u32 0,.int .i64 0] 36)):=((((Below.refl w.heap.size w).alloc (by first | exact Qy9 _ | (simp;done) | (simp;omega)) _)).alloc (by first | exact Qy9 _ | (simp;done) | (simp;omega)) _);have hc0_0:((w.alloc (Obj.cells #[.int .i64 kind,.int .i64 a,.int .i64 b,.string s] 44)).alloc (Obj.cells #[.int .u32 0,.int .i64 0] 36)).cell? ⟨w.heap.size,0,none⟩=some (.int .i64 kind):=Vv (Yp (by first | rfl | simp) 0 rfl);have hc0_1:((w.alloc (Obj.cells #[.int .i64 kind,.int .i64 a,.int .i64 b,.string s] 44)).alloc (Obj.cells #[.int .u32 0,.int .i64 0] 36)).cell? ⟨w.heap.size,1,none⟩=some (.int .i64 a):=Vv (Yp (by first | rfl | simp) 1 rfl);have hc0_2:((w.alloc (Obj.cells #[.int .i64 kind,.int .i64 a,.int .i64 b,.string s] 44)).alloc (Obj.cells #[.int .u32 0,.int .i64 0] 36)).cell? ⟨w.heap.size,2,none⟩=some (.int .i64 b):=Vv (Yp (by first | rfl | simp) 2 rfl);have hc0_3:((w.alloc (Obj.cells #[.int .i64 kind,.int .i64 a,.int .i64 b,.string s] 44)).alloc (Obj.cells #[.int .u32 0,.int .i64 0] 36)).cell? ⟨w.heap.size,3,none⟩=some (.string s):=Vv (Yp (by first | rfl | simp) 3 rfl);have hc1_0:((w.alloc (Obj.cells #[.int .i64 kind,.int .i64 a,.int .i64 b,.string s] 44)).alloc (Obj.cells #[.int .u32 0,.int .i64 0] 36)).cell? ⟨w.heap.size+1,0,none⟩=some (.int .u32 0):=Yp (by first | rfl | simp) 0 rfl;have hc1_1:((w.alloc (Obj.cells #[.int .i64 kind,.int .i64 a,.int .i64 b,.string s] 44)).alloc (Obj.cells #[.int .u32 0,.int .i64 0] 36)).cell? ⟨w.heap.size+1,1,none⟩=some (.int .i64 0):=Yp (by first | rfl | simp) 1 rfl;have hs0:w.heap.size < ((w.alloc (Obj.cells #[.int .i64 kind,.int .i64 a,.int .i64 b,.string s] 44)).alloc (Obj.cells #[.int .u32 0,.int .i64 0] 36)).heap.size:=by simp <;> omega
 have hs1:w.heap.size+1 < ((w.alloc (Obj.cells #[.int .i64 kind,.int .i64 a,.int .i64 b,.string s] 44)).alloc (Obj.cells #[.int .u32 0,.int .i64 0] 36)).heap.size:=by simp <;> omega
 have hz0:∀ o,((w.alloc (Obj.cells #[.int .i64 kind,.int .i64 a,.int .i64 b,.string s] 44)).alloc (Obj.cells #[.int .u32 0,.int .i64 0] 36)).frozen? ⟨w.heap.size,o,none⟩=false:=fun o=>Qn8 (by first | (simp;done) | (simp;omega)) (QeB (by first | rfl | simp) o);have hz1:∀ o,((w.alloc (Obj.cells #[.int .i64 kind,.int .i64 a,.int .i64 b,.string s] 44)).alloc (Obj.cells #[.int .u32 0,.int .i64 0] 36)).frozen? ⟨w.heap.size+1,o,none⟩=false:=fun o=>QeB (by first | rfl | simp) o;generalize ((w.alloc (Obj.cells #[.int .i64 kind,.int .i64 a,.int .i64 b,.string s] 44)).alloc (Obj.cells #[.int .u32 0,.int .i64 0] 36))=w0 at *;have hB:Below w0.heap.size w0 w0:=Below.refl _ _
 go_wp2_with (go_at_call 27;refine (QbX _ _ _ h1.1 h1.2 (by decide) (by decide)).mono ?_;rintro e w1 ⟨rfl,rfl⟩)
 have hRB:w.heap.size+1≤w0.heap.size:=hs0;have hq2:(q:Int) < 11:=by omega
 refine wp_region_held_drew (S:=(fun w'=>Below (w.heap.size+1) w0 w' ∧ ∀ b o,b < w.heap.size+1→w'.cell? ⟨b,o,none⟩=w0.cell? ⟨b,o,none⟩)) (by kernel_rfl) (by exact Qu3 (Below.refl _ _).drew) (fun hHeld=>?_)
 (refine Qix (i:=1) rfl (by kernel_rfl) (by kernel_rfl) (by kernel_rfl) (fun _ _ _ _ h=>h) hHeld (by rfl) ?_;apply Exists.intro;refine ⟨fun w1 hS1=>?_,?_⟩;(focus ((try dsimp only at hS1);go_split_ands;go_simp;first | done | with_reducible rfl | exact rfl));try simp only [Act.put,Qy3,Qzb,Qy6,Qy4,Qy5])
 (refine Qix (i:=2) rfl (by kernel_rfl) (by kernel_rfl) (by kernel_rfl) (fun _ _ _ _ h=>h) hHeld (by rfl) ?_;apply Exists.intro;refine ⟨fun w1 hS1=>?_,?_⟩;(focus ((try dsimp only at hS1);go_split_ands;go_simp;first | done | with_reducible rfl | exact rfl));try simp only [Act.put,Qy3,Qzb,Qy6,Qy4,Qy5])
 refine Qkc (i:=0) (by kernel_rfl) rfl (fun K hK=>?_)
 go_simp
 (go_at_call 65;refine (QoU q _ hq1).mono ?_;rintro e w1 ⟨rfl,hb1,hs1',hn0,hn1⟩)
 refine hK.out _ _ (by (try dsimp only);exact Qu3 (Qhk hRB hHeld.1 hb1)) (fun hHeld=>?_);clear hK K
 try simp only [Act.put,Qy3,Qzb,Qy6,Qy4,Qy5]
 refine Qkc (i:=3) (by kernel_rfl) rfl (fun K hK=>?_)
 go_simp
 (go_at_call 65;refine (QoU q _ hq1).mono ?_;rintro e w2 ⟨rfl,hb2,hs2',_,_⟩)
 refine hK.out _ _ (by (try dsimp only);exact Qu3 (Qhk hRB hHeld.1 hb2)) (fun hHeld=>?_);clear hK K
 try simp only [Act.put,Qy3,Qzb,Qy6,Qy4,Qy5]
 (refine Qix (i:=4) rfl (by kernel_rfl) (by kernel_rfl) (by kernel_rfl) (fun _ _ _ _ h=>h) hHeld (by rfl) ?_;apply Exists.intro;refine ⟨fun w1 hS1=>?_,?_⟩;(focus ((try dsimp only at hS1);go_split_ands;go_simp;first | done | with_reducible rfl | exact rfl));try simp only [Act.put,Qy3,Qzb,Qy6,Qy4,Qy5])
 refine Qkc (i:=5) (by kernel_rfl) rfl (fun K hK=>?_)
 go_simp
 (go_at_call 27;refine (QhH _ _ _ _ Q h2.1 h2.2 (by decide) (by decide)).mono ?_;rintro e w3 ⟨rfl,rfl⟩)
 refine hK.out _ _ (by (try dsimp only);exact hHeld) (fun hHeld=>?_);clear hK K
 try simp only [Act.put,Qy3,Qzb,Qy6,Qy4,Qy5]
 (refine Qix (i:=6) rfl (by kernel_rfl) (by kernel_rfl) (by kernel_rfl) (fun _ _ _ _ h=>h) hHeld (by rfl) ?_;apply Exists.intro;refine ⟨fun w1 hS1=>?_,?_⟩;(focus ((try dsimp only at hS1);go_split_ands;go_simp;first | done | with_reducible rfl | exact rfl));try simp only [Act.put,Qy3,Qzb,Qy6,Qy4,Qy5])
 have hB2:Below w0.heap.size w0 w2:=QmG (Qiy hb1) hb2;have m0:w2.cell? ⟨w0.heap.size,q * 2,none⟩=some (.int .u32 (Qi8 q:Int)):=Qkd hb2 hn0;have m1:w2.cell? ⟨w0.heap.size,q * 2+1,none⟩=some (.int .i64 (Qnc q:Int)):=Qkd hb2 hn1;have r0:=Qkd hB2 hc1_0;have r1:=Qkd hB2 hc1_1;have z0:=fun o=>Qr0 hB2 hs1 (hz1 o);have hwf:=hw.trans (hB2.mono hw.size);refine Qkc (i:=7) (by kernel_rfl) rfl (fun K hK=>?_)
 go_simp
 skip
 refine hK.out _ _ (by (try dsimp only);exact hHeld) (fun hHeld=>?_);clear hK K
 try simp only [Act.put,Qy3,Qzb,Qy6,Qy4,Qy5]
 refine Qkc (i:=8) (by kernel_rfl) rfl (fun K hK=>?_)
 go_simp
 skip
 refine hK.out _ _ (by (try dsimp only);exact Qu3 ((hHeld.1.setCell (by simp) _).setCell (by simp) _)) (fun hHeld=>?_);clear hK K
 try simp only [Act.put,Qy3,Qzb,Qy6,Qy4,Qy5]
 refine wpAnyH_done (by kernel_rfl) ?_ _
 go_wp2
 refine bodyPost_ret (v:=Qi9 (Qi8 q) (Qnc q)) (by simp [results,Tryz.results23,go_sem,r0,r1]) rfl ⟨by rw [EA.out,EB.out],(hwf.setCell (by simp) _).setCell (by simp) _⟩
theorem Qqp (x q k:Nat) (hx:x < 4294967296) (h0:q≤k) (h:k < 32) :
  bits BinOp.andNot IntKind.u32 ((XE x q k:Nat):Int) (2 ^ (31 - k) % 4294967296)=((XE x q (k+1):Nat):Int):=by
 have hp:2 ^ (31 - k) < 4294967296:=by
  have:2 ^ (31 - k) < 2 ^ 32:=Nat.pow_lt_pow_right (by omega) (by omega);simpa using this
 have e:(2 ^ (31 - k) % 4294967296:Int)=((2 ^ (31 - k):Nat):Int):=by
  rw [← Nat.mod_eq_of_lt hp,Int.natCast_emod,Int.natCast_pow];rfl
 rw [e,u32_andNot_nat _ _ (QpF x q k hx h0 (by omega)) hp,QjR x q k hx h0 h]
set_option maxHeartbeats 800000 in
theorem Qqq (kind a b:Int) (s:ByteArray) (w:World) (h1:J6 kind) (h2:J6 b) (hp:¬ 0 < Y4 kind 4) :
  Calls Tryz.prog 23 #[Qwi kind a b s] w fun e w'=>e=.returned (Qi9 (J7 kind a b) (QaH kind a b))∧Below w.heap.size w w':=by
 obtain ⟨q,hq⟩:=Qzc (XZ (n:=b) (m:=33) (by omega)).1;have hq1:q≤32:=by have:=(XZ (n:=b) (m:=33) (by omega)).2;omega
 obtain ⟨x,hx⟩:=Qzc (Int.emod_nonneg a (by decide:(4294967296:Int)≠0));have hx1:x < 4294967296:=by have:=Qzd a (by decide:(0:Int) < 4294967296);omega
 have EA:=Lib.hid (show J7 kind a b=V2 x q by unfold J7;rw [if_neg hp,hx,hq,Qy8,Qy8]);have EB:=Lib.hid (show QaH kind a b=q by unfold QaH;rw [if_neg hp,hq,Qy8]);have Q:=Lib.hid hq;clear hq
 go_enter Tryz.func23,Tryz.ntmps23
 go_wp2_with (fail)
 have hw:Below w.heap.size w ((w.alloc (Obj.cells #[.int .i64 kind,.int .i64 a,.int .i64 b,.string s] 44)).alloc (Obj.cells #[.int .u32 0,.int .i64 0] 36)):=((((Below.refl w.heap.size w).alloc (by first | exact Qy9 _ | (simp;done) | (simp;omega)) _)).alloc (by first | exact Qy9 _ | (simp;done) | (simp;omega)) _);have hc0_0:((w.alloc (Obj.cells #[.int .i64 kind,.int .i64 a,.int .i64 b,.string s] 44)).alloc (Obj.cells #[.int .u32 0,.int .i64 0] 36)).cell? ⟨w.heap.size,0,none⟩=some (.int .i64 kind):=Vv (Yp (by first | rfl | simp) 0 rfl);have hc0_1:((w.alloc (Obj.cells #[.int .i64 kind,.int .i64 a,.int .i64 b,.string s] 44)).alloc (Obj.cells #[.int .u32 0,.int .i64 0] 36)).cell? ⟨w.heap.size,1,none⟩=some (.int .i64 a):=Vv (Yp (by first | rfl | simp) 1 rfl);have hc0_2:((w.alloc (Obj.cells #[.int .i64 kind,.int .i64 a,.int .i64 b,.string s] 44)).alloc (Obj.cells #[.int .u32 0,.int .i64 0] 36)).cell? ⟨w.heap.size,2,none⟩=some (.int .i64 b):=Vv (Yp (by first | rfl | simp) 2 rfl);have hc0_3:((w.alloc (Obj.cells #[.int .i64 kind,.int .i64 a,.int .i64 b,.string s] 44)).alloc (Obj.cells #[.int .u32 0,.int .i64 0] 36)).cell? ⟨w.heap.size,3,none⟩=some (.string s):=Vv (Yp (by first | rfl | simp) 3 rfl);have hc1_0:((w.alloc (Obj.cells #[.int .i64 kind,.int .i64 a,.int .i64 b,.string s] 44)).alloc (Obj.cells #[.int .u32 0,.int .i64 0] 36)).cell? ⟨w.heap.size+1,0,none⟩=some (.int .u32 0):=Yp (by first | rfl | simp) 0 rfl;have hc1_1:((w.alloc (Obj.cells #[.int .i64 kind,.int .i64 a,.int .i64 b,.string s] 44)).alloc (Obj.cells #[.int .u32 0,.int .i64 0] 36)).cell? ⟨w.heap.size+1,1,none⟩=some (.int .i64 0):=Yp (by first | rfl | simp) 1 rfl;have hs0:w.heap.size < ((w.alloc (Obj.cells #[.int .i64 kind,.int .i64 a,.int .i64 b,.string s] 44)).alloc (Obj.cells #[.int .u32 0,.int .i64 0] 36)).heap.size:=by simp <;> omega
 have hs1:w.heap.size+1 < ((w.alloc (Obj.cells #[.int .i64 kind,.int .i64 a,.int .i64 b,.string s] 44)).alloc (Obj.cells #[.int .u32 0,.int .i64 0] 36)).heap.size:=by simp <;> omega
 have hz0:∀ o,((w.alloc (Obj.cells #[.int .i64 kind,.int .i64 a,.int .i64 b,.string s] 44)).alloc (Obj.cells #[.int .u32 0,.int .i64 0] 36)).frozen? ⟨w.heap.size,o,none⟩=false:=fun o=>Qn8 (by first | (simp;done) | (simp;omega)) (QeB (by first | rfl | simp) o);have hz1:∀ o,((w.alloc (Obj.cells #[.int .i64 kind,.int .i64 a,.int .i64 b,.string s] 44)).alloc (Obj.cells #[.int .u32 0,.int .i64 0] 36)).frozen? ⟨w.heap.size+1,o,none⟩=false:=fun o=>QeB (by first | rfl | simp) o;generalize ((w.alloc (Obj.cells #[.int .i64 kind,.int .i64 a,.int .i64 b,.string s] 44)).alloc (Obj.cells #[.int .u32 0,.int .i64 0] 36))=w0 at *;have hB:Below w0.heap.size w0 w0:=Below.refl _ _
 go_wp2_with (go_at_call 27;first | ((with_reducible refine (QhH b 33 q _ Q h2.1 h2.2 (by decide) (by decide)).mono ?_);rintro e w1 ⟨rfl,rfl⟩) | ((with_reducible refine (QbX kind 4 _ h1.1 h1.2 (by decide) (by decide)).mono ?_);rintro e w1 ⟨rfl,rfl⟩))
 go_loop [4,5] (fun t i=>∃ k:Nat,q≤k∧k≤32∧i=.int .i64 k∧t=.int .u32 ((XE x q k:Nat):Int)) (fun _ i=>32 - (intOf i).toNat)
 case atStart=>exact ⟨q,Qy9 _,hq1,rfl,by rw [hx,Qce]⟩
 case round =>
  obtain ⟨k,hk0,hk,rfl,rfl⟩:=hrel;by_cases hlt:k < 32
  ·go_wp2
   go_round
   case rel=>exact ⟨k+1,by omega,by omega,by go_num,by rw [Qqp x q k hx1 hk0 hlt]⟩
   case measure=>simp [intOf];omega
  ·obtain rfl:k=32:=by omega
   have E32:=Lib.hid (Qmm x q)
   go_wp2
   refine bodyPost_ret (v:=Qi9 (V2 x q) q) (by simp [results,Tryz.results23,go_sem,hc1_0,hc1_1,hz1,E32.out]) rfl ⟨by rw [EA.out,EB.out],(hw.setCell (by simp) _).setCell (by simp) _⟩
theorem Qwk (kind a b:Int) (s:ByteArray) (w:World) (h1:J6 kind) (h2:J6 a) (h3:J6 b) :
  Calls Tryz.prog 23 #[Qwi kind a b s] w fun e w'=>e=.returned (Qi9 (J7 kind a b) (QaH kind a b))∧Below w.heap.size w w':=by
 by_cases hp:0 < Y4 kind 4
 ·exact Qwj kind a b s w h1 h2 hp
 ·exact Qqq kind a b s w h1 h3 hp
theorem Qtb (kind a b:Int):J7 kind a b < 4294967296:=by
 unfold J7;split
 ·exact Qwh _
 ·exact Nat.lt_of_le_of_lt (Qik _ _) (by have:=Qzd a (by decide:(0:Int) < 4294967296);omega)
theorem Qf9 (kind a b:Int):Qah (J7 kind a b) (QaH kind a b):=by
 unfold J7 QaH;split
 ·have h:=XZ (n:=a) (m:=11) (by omega);exact Qqn _ (by omega)
 ·have h:=XZ (n:=b) (m:=33) (by omega);exact ⟨by omega,by omega,by rw [Qy8];exact Qcd _ _⟩
theorem Qlg (kind a b:Int):QaH kind a b≤32:=by have:=(Qf9 kind a b).2.1;omega
end
section
open Go.ChangeShapes Go.WideShapes Go.ChangeAt Go.RowKit
open Go.ChangeMaps (open_string shut_string)
theorem own:ownKnob Tryz.prog.godebug=none:=by kernel_rfl
theorem WD:laidOutB Tryz.prog=true:=by kernel_rfl
abbrev Vp (W:World):Nat→Nat→Prop:=fun b _=>b < W.heap.size
abbrev noG:Qt:=fun _=>none
theorem Z8 {P:Program} {f:FuncId} {ags:List EV} (h:Cf P f [] ags [] (.b true)) {W:World} {vs:List Value} (hA:Amb W (Vp W)) (hR:RAs W (Vp W) noG (avL ags) vs) :
  Calls P f vs.toArray W fun e w'=>e=.returned (.bool true)∧Below W.heap.size W w':=by
 let E:Env:=⟨W,fun _=>False,Vp W,noG,hA,fun _ _ h=>h⟩
 have I:Inv E ((obs []).map (·.1)) noG (Vp W) (obs []) W:=by
  exact { os := rfl, tape := rfl, output := rfl, size := Qy9 _, block := fun _ _ _ => rfl,
          own := fun r => by show Hp W (Vp W) noG r .dead; unfold Hp; trivial,
          mine := fun r b c h _ => (Qza (show false = true from h)),
          inj := fun r r' b c c' h _ _ _ => (Qza (show false = true from h)),
          pub0 := fun _ _ h => h, pubs := fun _ _ h => Or.inl h, publ := fun _ _ h => h, same := fun _ _ _ => rfl, kept := fun _ _ => rfl }
 refine (h.2 E noG (Vp W) W vs rfl rfl I hR).mono ?_;rintro e w' ⟨v,φ',Pub',rfl,J,hv⟩;have hv':v=.bool true:=by unfold EV.av RA RP at hv;exact hv
 subst hv';exact ⟨rfl,J.os,J.tape,J.output,J.size,fun k hk=>J.block k hk (fun h=>h)⟩
section
variable {w:World} {Pub:Nat→Nat→Prop} {φ:Qt}
theorem VR:RAs w Pub φ (avL []) []:=by unfold avL RAs;rfl
theorem Wd {x:EV} {u:Value} {xs:List EV} {us:List Value} (h:RA w Pub φ x.av u) (k:RAs w Pub φ (avL xs) us):RAs w Pub φ (avL (x::xs)) (u::us):=by
 unfold avL RAs;exact ⟨u,us,rfl,h,k⟩
end
theorem VS {n:Int} (h:(Lit.int .i64 n).wf=true):YA n:=by
 have h1:IntKind.i64.min = -9223372036854775808:=rfl;have h2:IntKind.i64.max=9223372036854775807:=rfl;simp only [Lit.wf,Bool.and_eq_true,decide_eq_true_eq] at h;omega
abbrev Qxs (k a b:Int) (s:List UInt8):Prop:=YA k∧YA a∧YA b∧s.length≤maxLen
end
section
open Go.RowKit
theorem Wh {n m:Int} (hq1 : -9223372036854775808≤n) (hq2:n≤9223372036854775807) (hm:0 < m):Cf Tryz.prog 27 [] [.i n,.i m] [] (.i (pk n m)):=by
 refine Qs {} Tryz.func27 Tryz.ntmps27 ?_;refine ⟨fun h1=>?_,fun h1=>?_⟩
 ·skip
  have c1:=h1
  (simp only [bsX] at c1)
  repeat refine o82 ?_
  trivial
 ·skip
  have c1:=h1
  (simp only [bsX] at c1)
  repeat refine o82 ?_
  trivial
end
section
open Go.RowKit
section
variable {E:Env} {φ:Qt} {Pub:Nat→Nat→Prop} {w w':World}
theorem Qqm (hp:∀ b i,Pub b i→b < w.heap.size) (hb:Below w.heap.size w w'):Adv w Pub w' Pub:=fun b i h=>by
 refine ⟨h,?_⟩;simp only [World.cell?,hb.block b (hp b i h)]
theorem Inv.below (I:Inv E [] φ Pub [] w) (e:E.w0=w) (hb:Below w.heap.size w w'):Inv E [] φ Pub [] w' :=
 I.next hb.os hb.tape hb.output hb.size (fun b h _=>hb.block b (by rw [e] at h;exact h)) (Qqm I.publ hb) (fun _ _ h=>.inl h) (fun b i h=>Nat.lt_of_lt_of_le (I.publ b i h) hb.size)
  (fun r h=>Qza (show false=true from h)) (fun r _ _ h=>Qza (show false=true from h)) (fun r _ _ _ _ h=>Qza (show false=true from h)) (fun _ h=>by cases h)
end
theorem Cf.of {P:Program} {f:FuncId} {ags:List EV} {u:Value} (hc:Wp P f=true)
  (h:∀ (w:World) (Pub:Nat→Nat→Prop) (φ:Qt) (vs:List Value),(∀ b i,Pub b i→b < w.heap.size)→RAs w Pub φ (avL ags) vs→Calls P f vs.toArray w fun e w'=>e=.returned u∧Below w.heap.size w w'):Cf P f [] ags [] (.v u):=by
 refine ⟨hc,fun E φ Pub w vs e1 e2 I hR=>(h w Pub φ vs I.publ hR).mono ?_⟩;rintro e w' ⟨rfl,hb⟩;exact ⟨u,φ,Pub,rfl,I.below e1 hb,by unfold EV.av RA RP;rfl⟩
end
section
open Go.RowKit
theorem sizeBuilder:(Tryz.prog.info? 204).map (·.size)=some 2:=by kernel_rfl
theorem liesBuilder:liesAt Tryz.prog Tryz.prog.depth 204 (2 / Tryz.prog.cellsOf 204) 0 204 1=true:=by kernel_rfl
end
section
open Go.ChangeShapes Go.WideShapes Go.ChangeAt Go.RowKit
theorem ra_lz {W:World} {x:Addr} {n c sz:Nat} {f:Nat→Nat→EV} (hn:n≤c) (hc:c≤maxLen) (hsz:0 < sz)
  (h:∀ i,i < n → ∀ j,j < sz→∃ u,W.cell? (x.add (i * sz+j))=some u∧u.oneCell'=true∧RP W (Vp W) (f i j).pv u):RA W (Vp W) noG (EV.lz n sz f).av (.slice (some x) n c):=by
 unfold EV.av EV.pv RA RP;refine ⟨some x,c,rfl,hn,hc,(fun h=>by cases h),?_⟩;by_cases h0:n=0
 ·exact .inl h0
 ·right;obtain ⟨b,off,spot⟩:=x;obtain ⟨u0,k0,_,_⟩:=h 0 (by omega) 0 hsz;have hspot:spot=none:=by simpa [Addr.add] using World.cell?_spot k0
  subst hspot;refine ⟨b,off,rfl,Qdg fun k q hq=>?_⟩;have hk:k < n * sz:=by have:=(List.getElem?_eq_some_iff.1 hq).1;rw [WX] at this;exact this
  have hb:k % sz < sz:=Nat.mod_lt _ hsz;have ha:k / sz < n:=(Nat.div_lt_iff_lt_mul hsz).2 hk;have e:k / sz * sz+k % sz=k:=by rw [Qzf];exact Nat.div_add_mod k sz
  have g:=XG n sz f ha hb;rw [e,hq] at g;cases g;obtain ⟨u,k1,k2,k3⟩:=h _ ha _ hb;rw [e,Go.WideShapes.add_plain] at k1;exact ⟨u,k1,World.block_lt_of_cell? W _ k1,k2,k3⟩
theorem Qyk {W:World} {sz:Nat} {f:Nat→Nat→EV}:RA W (Vp W) noG (EV.lz 0 sz f).av (.slice none 0 0):=by
 unfold EV.av EV.pv RA RP;exact ⟨none,0,rfl,Qy9 _,by unfold maxLen;omega,fun _=>rfl,.inl rfl⟩
abbrev Qga (l:List (List UInt8)):EV:=.lz l.length 1 (fun i j=>.s (l.getD i []))
structure RawS where
 k:Int
 a:Int
 b:Int
 s:List UInt8
 deriving Inhabited
def Qlh (r:RawS):Nat→EV
 | 0=>.i r.k
 | 1=>.i r.a
 | 2=>.i r.b
 | _=>.s r.s
def RawS.inn (r:RawS):Prop:=Qxs r.k r.a r.b r.s
abbrev QR (l:List RawS):EV:=.lz l.length 4 (fun i j=>Qlh (l.getD i default) j)
theorem Wb {H:Type} {enc:TypeId×Value→H} {W:World} {r:Reach} {b0 base:Nat} {v:Value} {d:DataW H} {p:List MemPlace}
  (hv:Value.okWide Tryz.prog W r b0 22 v) (h:DataW.Trod enc Tryz.prog W base (fun _=>true) true 22 v d p) :
  ∃ l:List RawS,(l.length≤maxLen ∧ ∀ x∈l,x.inn)∧RA W (Vp W) noG (QR l).av v:=by
 obtain ⟨a,len,cap,rfl⟩:=okWide_slice Tryz.underlying22 hv;obtain ⟨fuel,hf⟩:=h;rcases DataW.trod_slice Tryz.underlying22 hf with ⟨hcs,_⟩ | ⟨x,l,c,elems,rest,n,_,hcs,_,_,hl,hm,hlen,hel,_⟩
 ·simp [Value.cells] at hcs;obtain ⟨rfl,rfl,rfl⟩:=hcs;exact ⟨[],⟨Nat.zero_le _,fun s hs=>by cases hs⟩,Qyk⟩
 ·simp [Value.cells] at hcs;obtain ⟨rfl,rfl,rfl⟩:=hcs
  have each:∀ i,∃ r:RawS,i < len→r.inn ∧ ∀ j,j < 4→∃ u,W.cell? (x.add (i * 4+j))=some u∧u.oneCell'=true∧RP W (Vp W) (Qlh r j).pv u:=fun i=>by
   by_cases hi:i < len
   ·have he:=hel i hi;rw [List.getElem?_eq_getElem (by omega)] at he;obtain ⟨cs,h1,h2⟩:=Option.bind_eq_some_iff.1 he;have hsz:(Tryz.prog).cellsOf 44=4:=by kernel_rfl
    rw [hsz] at h1;obtain ⟨_,hcl,hcell⟩:=World.cells?_some h1
    obtain ⟨c0,c1,c2,c3,rfl⟩:∃ c0 c1 c2 c3,cs=[c0,c1,c2,c3]:=by
     match cs,hcl with
     | [c0,c1,c2,c3],_=>exact ⟨_,_,_,_,rfl⟩
    obtain ⟨y0,y1,y2,y3,m,_,_,e0,e1,e2,e3⟩:=Joins.trod_struct4 Tryz.underlying44 h2;have e0:DataW.trod enc Tryz.prog W base (fun _=>true) true m 3 [c0]=some y0:=e0;have e1:DataW.trod enc Tryz.prog W base (fun _=>true) true m 3 [c1]=some y1:=e1;have e2:DataW.trod enc Tryz.prog W base (fun _=>true) true m 3 [c2]=some y2:=e2;have e3:DataW.trod enc Tryz.prog W base (fun _=>true) true m 9 [c3]=some y3:=e3;obtain ⟨n0,q0,_,w0⟩:=DataW.trod_int Tryz.underlying3 e0;obtain ⟨n1,q1,_,w1⟩:=DataW.trod_int Tryz.underlying3 e1;obtain ⟨n2,q2,_,w2⟩:=DataW.trod_int Tryz.underlying3 e2;obtain ⟨s,q3,_,w3⟩:=DataW.trod_string Tryz.underlying9 e3;simp only [List.cons.injEq,and_true] at q0 q1 q2 q3;subst q0 q1 q2 q3
    have hc4:∀ j,j < 4→W.cell? (x.add (i * 4+j))=[Value.int .i64 n0,.int .i64 n1,.int .i64 n2,.string s][j]?:=fun j hj=>by
     have k:=hcell j hj;rw [Addr.add_add] at k;exact k
    refine ⟨⟨n0,n1,n2,s.data.toList⟩,fun _=>⟨⟨VS w0,VS w1,VS w2,by show s.data.toList.length≤maxLen;rw [Array.length_toList];exact w3⟩,fun j hj=>?_⟩⟩;have k:=hc4 j hj
    match j,hj with
    | 0,_=>exact ⟨_,k,rfl,by unfold Qlh EV.pv RP;rfl⟩
    | 1,_=>exact ⟨_,k,rfl,by unfold Qlh EV.pv RP;rfl⟩
    | 2,_=>exact ⟨_,k,rfl,by unfold Qlh EV.pv RP;rfl⟩
    | 3,_=>exact ⟨_,k,rfl,by unfold Qlh EV.pv RP;rfl⟩
   ·exact ⟨default,fun h=>absurd h hi⟩
  obtain ⟨f,hff⟩:=Classical.axiomOfChoice each;have e:len=((Qze len).map f).length:=by simp
  refine ⟨(Qze len).map f,⟨by rw [← e];omega,fun r hr=>?_⟩,?_⟩
  ·obtain ⟨i,hi,rfl⟩:=List.mem_map.1 hr;exact (hff i (List.mem_range.1 hi)).1
  ·have k:=ra_lz (W:=W) (x:=x) (n:=len) (c:=cap) (sz:=4) (f:=fun i j=>Qlh (((Qze len).map f).getD i default) j) hl hm (by decide) (fun i hi j hj=>by
    have e2:((Qze len).map f).getD i default=f i:=by simp [List.getD_eq_getElem?_getD,List.getElem?_map,List.getElem?_range hi]
    show ∃ u,W.cell? (x.add (i * 4+j))=some u∧u.oneCell'=true∧RP W (Vp W) (Qlh (((Qze len).map f).getD i default) j).pv u;rw [e2]
    exact (hff i hi).2 j hj)
   unfold QR;rw [← e];exact k
end
end Go.Proofs.YtcebndkiagbddaaGreatDoor
