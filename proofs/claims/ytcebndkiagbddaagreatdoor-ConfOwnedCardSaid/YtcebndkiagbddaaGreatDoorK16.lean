/- A part of the proof: contracts of functions and what they stand on. Written shorter and merged by a program (pack.py). -/
import Derived.Test.YtcebndkiagbddaaGreatDoorRows
import Derived.Laws.AppendOwnNone
import Derived.Shelf.Strings.Builder1
import Derived.Shelf.Strings.Builder2
import Derived.Shelf.Strings.OnBuilder
import Derived.Shelf.Small.Bits
import Derived.Shelf.Small.Strs
import Derived.Shelf.Strings.BuilderF
import Derived.Shelf.Strings.BuilderK
import Derived.Shelf.Strings.Builder2Cap
import Derived.Shelf.Strconv.Itoa0
import Derived.Shelf.Strconv.Itoa1
import Derived.Shelf.LaysM
import Derived.Shelf.Strconv.Itoa2
import Derived.Shelf.Strconv.Itoa3
import Derived.Shelf.Strings.Search1
import Derived.Shelf.Strings.Search2
import Derived.Shelf.Strings.Search3
import Derived.Shelf.Strings.Cut
import Derived.Shelf.Strings.Count
import Derived.Shelf.Strings.Shaped
import Derived.Shelf.Strings.Prefix
import Derived.Shelf.Strings.Split
import Derived.Shelf.Bits.Mul64
import Derived.Shelf.Strings.Repeat
import Derived.Shelf.Unicode.DecodeSlow
import Derived.Shelf.Strings.BuilderCap
import Derived.Shelf.Slices.Turned
import Derived.Test.YtcebndkiagbddaaGreatDoorProg
import Derived.Lib.Bytealg
import Derived.Lib.SplitLaws
import Derived.Lib.IndexBytes
import Derived.Lib.Join
import Derived.KernelRfl
import Derived.JoinedOf
import Derived.Test.YtcebndkiagbddaaGreatDoorK15
set_option linter.unusedVariables false
set_option linter.unusedSimpArgs false
set_option maxRecDepth 100000
set_option maxHeartbeats 4000000
open List renaming length_cons -> Qxo, getElem?_eq_getElem -> Qxp, getD_eq_getElem?_getD -> Qxq, mem_cons -> Qxr, mem_cons_of_mem -> Qxt, take_succ_eq_append_getElem -> Qxx, nil_append -> Qxy, append_assoc -> QxB, all_eq_true -> QxC, count_cons_of_ne -> QxJ, count_cons_self -> QxM, contains -> QxN, map_congr_left -> QxO
open Char renaming ofNat -> Qxs
open Nat renaming two_pow_pos -> Qxu, dvd_of_mod_eq_zero -> Qxw, pow_le_pow_right -> Qxz, lt_of_lt_of_le -> QxA, testBit_mul_two_pow -> QxD, testBit_mod_two_pow -> QxE, div_add_mod -> QxF, pow_dvd_pow -> QxG, testBit_lt_two_pow -> QxH, mod_eq_zero_of_dvd -> QxI, eq_of_testBit_eq -> QxL, add_zero -> QxP, le_refl -> QxQ, zero_le -> QxR
open UInt8 renaming ofNat -> Qxv
open Bool renaming and_false -> QxK
namespace Go.Proofs.YtcebndkiagbddaaGreatDoor
section
open Go.RowKit
abbrev c8 (b:UInt8):Value:=.int .u8 (b.toNat:Int)
def Qqu (w:World) (v:Value) (l:List UInt8):Prop :=
 ∃ (a:Option Addr) (c:Nat),v=.slice a l.length c/\l.length<=c/\c<=maxLen/\(a=none->c=0) /\
  (0 < l.length->∃ b off,a=some ⟨b,off,none⟩/\b < w.heap.size /\ ∀ i u,l[i]? = some u->w.cell? ⟨b,off+i,none⟩=some (c8 u))
theorem Qqu.below {w w':World} {v:Value} {l:List UInt8} (h:Qqu w v l) (hb:Below w.heap.size w w'):Qqu w' v l:=by
 obtain ⟨a,c,h1,h2,h3,h4,h5⟩:=h;refine ⟨a,c,h1,h2,h3,h4,fun hl=>?_⟩;obtain ⟨b,off,e,hlt,hc⟩:=h5 hl;exact ⟨b,off,e,QxA hlt hb.size,fun i u hu=>by rw [hb.cell (p:=⟨b,off+i,none⟩) hlt];exact hc i u hu⟩
theorem Qqu.nil (w:World):Qqu w (.slice none 0 0) []:=⟨none,0,rfl,QxQ _,QxR _,fun _=>rfl,fun h=>by simp at h⟩
section
variable {o:Oper} {a:Act} {Q:Exit->Act->World->Prop} {w:World}
end
end
end Go.Proofs.YtcebndkiagbddaaGreatDoor
namespace Go.Proofs
open Go.Shelf
def Tryz.lays156_ren:Go.Shelf.Ren:=⟨fun | 156=>76 | 165=>122 | 166=>123 | 169=>125 | 240=>168 | 241=>169 | 276=>197 | 277=>198 | n=>n,fun | 31=>96 | 9=>9 | 3=>3 | 4=>4 | 0=>0 | 20=>20 | 72=>204 | 76=>208 | 70=>202 | 37=>155 | 75=>207 | 127=>257 | 164=>283 | 5=>5 | 80=>211 | n=>n,fun | n=>n⟩
theorem Tryz.lays156 : Go.Proofs.Lays.n156 Tryz.prog Tryz.lays156_ren := {
  mixed := by kernel_rfl
  f156 := Tryz.func76.trans (congrArg some (by kernel_rfl))
  f165 := Tryz.func122.trans (congrArg some (by kernel_rfl))
  f166 := Tryz.func123.trans (congrArg some (by kernel_rfl))
  f169 := Tryz.func125.trans (congrArg some (by kernel_rfl))
  f240 := Tryz.func168.trans (congrArg some (by kernel_rfl))
  f241 := Tryz.func169.trans (congrArg some (by kernel_rfl))
  f276 := Tryz.func197.trans (congrArg some (by kernel_rfl))
  f277 := Tryz.func198.trans (congrArg some (by kernel_rfl))
  t0 := Tryz.underlying0
  a0 := Tryz.isAgg0
  z0 := Tryz.sizeOf0
  v0 := Tryz.zeroValue0
  t3 := Tryz.underlying3
  a3 := Tryz.isAgg3
  z3 := Tryz.sizeOf3
  v3 := Tryz.zeroValue3
  t4 := Tryz.underlying4
  a4 := Tryz.isAgg4
  z4 := Tryz.sizeOf4
  v4 := Tryz.zeroValue4
  t9 := Tryz.underlying9
  a9 := Tryz.isAgg9
  z9 := Tryz.sizeOf9
  v9 := Tryz.zeroValue9
  t20 := Tryz.underlying20
  a20 := Tryz.isAgg20
  z20 := Tryz.sizeOf20
  v20 := Tryz.zeroValue20
  t31 := Tryz.underlying96
  a31 := Tryz.isAgg96
  z31 := Tryz.sizeOf96
  v31 := Tryz.zeroValue96
  t37 := Tryz.underlying155
  a37 := Tryz.isAgg155
  z37 := Tryz.sizeOf155
  v37 := Tryz.zeroValue155
  t70 := Tryz.underlying202
  a70 := Tryz.isAgg202
  z70 := Tryz.sizeOf202
  v70 := Tryz.zeroValue202
  t72 := Tryz.underlying204
  a72 := Tryz.isAgg204
  z72 := Tryz.sizeOf204
  v72 := Tryz.zeroValue204
  t75 := Tryz.underlying207
  a75 := Tryz.isAgg207
  z75 := Tryz.sizeOf207
  v75 := Tryz.zeroValue207
  t76 := Tryz.underlying208
  a76 := Tryz.isAgg208
  z76 := Tryz.sizeOf208
  v76 := Tryz.zeroValue208
  t127 := Tryz.underlying257
  a127 := Tryz.isAgg257
  z127 := Tryz.sizeOf257
  v127 := Tryz.zeroValue257
  t164 := Tryz.underlying283
  a164 := Tryz.isAgg283
  z164 := Tryz.sizeOf283
  v164 := Tryz.zeroValue283 }
theorem Tryz.Builder_Extra_156 : Builder.Extra Tryz.prog Tryz.lays156_ren := {
  sizeBuilder := by kernel_rfl
  liesBuilder := by kernel_rfl
  t5 := Tryz.underlying5
  a5 := Tryz.isAgg5
  z5 := Tryz.sizeOf5
  v5 := Tryz.zeroValue5
  infoByte := by kernel_rfl
  cellsByte := by kernel_rfl
  sizeByte := by kernel_rfl
  neB5 := by decide }
open Go.RowKit in
theorem Tryz.strings_Join_none (a:Option Addr) (c:Nat) (sep:ByteArray) (w:World) :
  Calls Tryz.prog 76 #[.slice a 0 c,.string sep] w fun e w'=>e=.returned (.string ⟨#[]⟩)/\w'=w:=Any.strings_Join_none Tryz.lays156 Tryz.Builder_Extra_156 a c sep w
open Go.RowKit in
theorem Tryz.strings_Join (bk o c:Nat) (xs:List ByteArray) (sep:ByteArray) (w:World) (hcells:∀ (j:Nat) x,xs[j]? = some x->w.cell? ⟨bk,o+j,none⟩=some (.string x)) (hbk:bk < w.heap.size) (hN:xs.length<=140737488355328) (hcap:xs.length<=c) (hlen:(Lib.join (xs.map (·.data.toList)) sep.data.toList).length<=140737488355328) :
  Calls Tryz.prog 76 #[.slice (some ⟨bk,o,none⟩) xs.length c,.string sep] w fun e w'=>e=.returned (.string ⟨(Lib.join (xs.map (·.data.toList)) sep.data.toList).toArray⟩)/\Below w.heap.size w w':=Any.strings_Join Tryz.lays156 Tryz.Builder_Extra_156 bk o c xs sep w hcells hbk hN hcap hlen
def Tryz.lays128_ren:Go.Shelf.Ren:=⟨fun | 128=>142 | n=>n,fun | 51=>34 | 3=>3 | 4=>4 | 46=>167 | 5=>5 | 9=>9 | n=>n,fun | n=>n⟩
def Tryz.lays125_ren:Go.Shelf.Ren:=⟨fun | 125=>97 | 128=>142 | 129=>143 | n=>n,fun | 46=>167 | 3=>3 | 51=>34 | 53=>140 | 4=>4 | 5=>5 | 9=>9 | n=>n,fun | n=>n⟩
theorem Tryz.lays125 : Go.Proofs.Lays.n125 Tryz.prog Tryz.lays125_ren := {
  mixed := by kernel_rfl
  f125 := Tryz.func97.trans (congrArg some (by kernel_rfl))
  f128 := Tryz.func142.trans (congrArg some (by kernel_rfl))
  f129 := Tryz.func143.trans (congrArg some (by kernel_rfl))
  t3 := Tryz.underlying3
  a3 := Tryz.isAgg3
  z3 := Tryz.sizeOf3
  v3 := Tryz.zeroValue3
  t4 := Tryz.underlying4
  a4 := Tryz.isAgg4
  z4 := Tryz.sizeOf4
  v4 := Tryz.zeroValue4
  t5 := Tryz.underlying5
  a5 := Tryz.isAgg5
  z5 := Tryz.sizeOf5
  v5 := Tryz.zeroValue5
  t9 := Tryz.underlying9
  a9 := Tryz.isAgg9
  z9 := Tryz.sizeOf9
  v9 := Tryz.zeroValue9
  t46 := Tryz.underlying167
  a46 := Tryz.isAgg167
  z46 := Tryz.sizeOf167
  v46 := Tryz.zeroValue167
  t51 := Tryz.underlying34
  a51 := Tryz.isAgg34
  z51 := Tryz.sizeOf34
  v51 := Tryz.zeroValue34
  t53 := Tryz.underlying140
  a53 := Tryz.isAgg140
  z53 := Tryz.sizeOf140
  v53 := Tryz.zeroValue140 }
theorem Tryz.bits_Len (x:Int) (w:World) (h0:0<=x) (h1:x<=18446744073709551615) :
  Calls Tryz.prog 97 #[.int .u64 x] w fun e w'=>e=.returned (.int .i64 (Lib.bitLen x.toNat))/\w'=w:=Any.bits_Len Tryz.lays125 x w h0 h1
def Tryz.lays133_ren:Go.Shelf.Ren:=⟨fun | 133=>181 | 128=>142 | n=>n,fun | 51=>34 | 3=>3 | 4=>4 | 46=>167 | 5=>5 | 9=>9 | n=>n,fun | n=>n⟩
theorem Tryz.lays133 : Go.Proofs.Lays.n133 Tryz.prog Tryz.lays133_ren := {
  mixed := by kernel_rfl
  f128 := Tryz.func142.trans (congrArg some (by kernel_rfl))
  f133 := Tryz.func181.trans (congrArg some (by kernel_rfl))
  t3 := Tryz.underlying3
  a3 := Tryz.isAgg3
  z3 := Tryz.sizeOf3
  v3 := Tryz.zeroValue3
  t4 := Tryz.underlying4
  a4 := Tryz.isAgg4
  z4 := Tryz.sizeOf4
  v4 := Tryz.zeroValue4
  t5 := Tryz.underlying5
  a5 := Tryz.isAgg5
  z5 := Tryz.sizeOf5
  v5 := Tryz.zeroValue5
  t9 := Tryz.underlying9
  a9 := Tryz.isAgg9
  z9 := Tryz.sizeOf9
  v9 := Tryz.zeroValue9
  t46 := Tryz.underlying167
  a46 := Tryz.isAgg167
  z46 := Tryz.sizeOf167
  v46 := Tryz.zeroValue167
  t51 := Tryz.underlying34
  a51 := Tryz.isAgg34
  z51 := Tryz.sizeOf34
  v51 := Tryz.zeroValue34 }
theorem Tryz.bits_LeadingZeros32 (x:Int) (w:World) (h0:0<=x) (h1:x<=4294967295) :
  Calls Tryz.prog 181 #[.int .u32 x] w fun e w'=>e=.returned (.int .i64 (32 - (Lib.bitLen x.toNat:Int)))/\w'=w:=Any.bits_LeadingZeros32 Tryz.lays133 x w h0 h1
def Tryz.lays213_ren:Go.Shelf.Ren:=⟨fun | 213=>187 | 265=>204 | n=>n,fun | 9=>9 | 3=>3 | n=>n,fun | n=>n⟩
def Tryz.lays106_ren:Go.Shelf.Ren:=⟨fun | 106=>155 | 213=>187 | 265=>204 | n=>n,fun | 9=>9 | 3=>3 | n=>n,fun | n=>n⟩
theorem Tryz.lays106 : Go.Proofs.Lays.n106 Tryz.prog Tryz.lays106_ren := {
  mixed := by kernel_rfl
  f106 := Tryz.func155.trans (congrArg some (by kernel_rfl))
  f213 := Tryz.func187.trans (congrArg some (by kernel_rfl))
  f265 := Tryz.func204.trans (congrArg some (by kernel_rfl))
  t3 := Tryz.underlying3
  a3 := Tryz.isAgg3
  z3 := Tryz.sizeOf3
  v3 := Tryz.zeroValue3
  t9 := Tryz.underlying9
  a9 := Tryz.isAgg9
  z9 := Tryz.sizeOf9
  v9 := Tryz.zeroValue9 }
open Go.RowKit in
theorem Tryz.strings_Compare (a b:ByteArray) (w:World) :
  Calls Tryz.prog 155 #[.string a,.string b] w fun e w'=>e=.returned (.int .i64 (Lib.compareBytes a.data.toList b.data.toList))/\w'=w:=Any.strings_Compare Tryz.lays106 a b w
def Tryz.lays137_ren:Go.Shelf.Ren:=⟨fun | 137=>146 | 217=>182 | 266=>202 | n=>n,fun | 9=>9 | 5=>5 | 3=>3 | n=>n,fun | n=>n⟩
theorem Tryz.lays137 : Go.Proofs.Lays.n137 Tryz.prog Tryz.lays137_ren := {
  mixed := by kernel_rfl
  f137 := Tryz.func146.trans (congrArg some (by kernel_rfl))
  f217 := Tryz.func182.trans (congrArg some (by kernel_rfl))
  f266 := Tryz.func202.trans (congrArg some (by kernel_rfl))
  t3 := Tryz.underlying3
  a3 := Tryz.isAgg3
  z3 := Tryz.sizeOf3
  v3 := Tryz.zeroValue3
  t5 := Tryz.underlying5
  a5 := Tryz.isAgg5
  z5 := Tryz.sizeOf5
  v5 := Tryz.zeroValue5
  t9 := Tryz.underlying9
  a9 := Tryz.isAgg9
  z9 := Tryz.sizeOf9
  v9 := Tryz.zeroValue9 }
open Go.RowKit in
theorem Tryz.strings_IndexByte (s:ByteArray) (c:Int) (w:World) :
  Calls Tryz.prog 146 #[.string s,.int .u8 c] w fun e w'=>e=.returned (.int .i64 (Lib.indexByte s.data.toList c.toNat.toUInt8))/\w'=w:=Any.strings_IndexByte Tryz.lays137 s c w
def Tryz.laysM246_ren:Go.Shelf.Ren:=⟨fun | 246=>164 | 283=>193 | 284=>194 | 285=>195 | 286=>196 | 129=>143 | 317=>210 | 318=>211 | 319=>212 | 320=>213 | 337=>223 | 338=>224 | n=>n,fun | 2=>2 | 3=>3 | 9=>9 | 4=>4 | 171=>279 | 0=>0 | 53=>140 | 37=>155 | 5=>5 | 173=>281 | 212=>294 | 51=>34 | 20=>20 | 213=>295 | 46=>167 | 232=>303 | 233=>304 | n=>n,fun | 17=>1 | 18=>2 | 19=>3 | n=>n⟩
def Tryz.laysM243_ren:Go.Shelf.Ren:=⟨fun | 243=>119 | 246=>164 | 283=>193 | 284=>194 | 285=>195 | 286=>196 | 129=>143 | 317=>210 | 318=>211 | 319=>212 | 320=>213 | 337=>223 | 338=>224 | n=>n,fun | 3=>3 | 9=>9 | 2=>2 | 4=>4 | 171=>279 | 0=>0 | 53=>140 | 37=>155 | 5=>5 | 173=>281 | 212=>294 | 51=>34 | 20=>20 | 213=>295 | 46=>167 | 232=>303 | 233=>304 | n=>n,fun | 17=>1 | 18=>2 | 19=>3 | n=>n⟩
def Tryz.laysM171_ren:Go.Shelf.Ren:=⟨fun | 171=>73 | 243=>119 | 246=>164 | 283=>193 | 284=>194 | 285=>195 | 286=>196 | 129=>143 | 317=>210 | 318=>211 | 319=>212 | 320=>213 | 337=>223 | 338=>224 | n=>n,fun | 3=>3 | 9=>9 | 2=>2 | 4=>4 | 171=>279 | 0=>0 | 53=>140 | 37=>155 | 5=>5 | 173=>281 | 212=>294 | 51=>34 | 20=>20 | 213=>295 | 46=>167 | 232=>303 | 233=>304 | n=>n,fun | 17=>1 | 18=>2 | 19=>3 | n=>n⟩
theorem Tryz.laysM171 : Go.Proofs.LaysM.n171 Tryz.prog Tryz.laysM171_ren := {
  mixed := by kernel_rfl
  f129 := Tryz.func143.trans (congrArg some (by kernel_rfl))
  f171 := Tryz.func73.trans (congrArg some (by kernel_rfl))
  f243 := Tryz.func119.trans (congrArg some (by kernel_rfl))
  f246 := Tryz.func164.trans (congrArg some (by kernel_rfl))
  f283 := Tryz.func193.trans (congrArg some (by kernel_rfl))
  f284 := Tryz.func194.trans (congrArg some (by kernel_rfl))
  f285 := Tryz.func195.trans (congrArg some (by kernel_rfl))
  f286 := Tryz.func196.trans (congrArg some (by kernel_rfl))
  f317 := Tryz.func210.trans (congrArg some (by kernel_rfl))
  f318 := Tryz.func211.trans (congrArg some (by kernel_rfl))
  f319 := Tryz.func212.trans (congrArg some (by kernel_rfl))
  f320 := Tryz.func213.trans (congrArg some (by kernel_rfl))
  f337 := Tryz.func223.trans (congrArg some (by kernel_rfl))
  f338 := Tryz.func224.trans (congrArg some (by kernel_rfl))
  t0 := Tryz.underlying0
  a0 := Tryz.isAgg0
  z0 := Tryz.sizeOf0
  v0 := Tryz.zeroValue0
  t2 := Tryz.underlying2
  a2 := Tryz.isAgg2
  z2 := Tryz.sizeOf2
  v2 := Tryz.zeroValue2
  t3 := Tryz.underlying3
  a3 := Tryz.isAgg3
  z3 := Tryz.sizeOf3
  v3 := Tryz.zeroValue3
  t4 := Tryz.underlying4
  a4 := Tryz.isAgg4
  z4 := Tryz.sizeOf4
  v4 := Tryz.zeroValue4
  t5 := Tryz.underlying5
  a5 := Tryz.isAgg5
  z5 := Tryz.sizeOf5
  v5 := Tryz.zeroValue5
  t9 := Tryz.underlying9
  a9 := Tryz.isAgg9
  z9 := Tryz.sizeOf9
  v9 := Tryz.zeroValue9
  t20 := Tryz.underlying20
  a20 := Tryz.isAgg20
  z20 := Tryz.sizeOf20
  v20 := Tryz.zeroValue20
  t37 := Tryz.underlying155
  a37 := Tryz.isAgg155
  z37 := Tryz.sizeOf155
  v37 := Tryz.zeroValue155
  t46 := Tryz.underlying167
  a46 := Tryz.isAgg167
  z46 := Tryz.sizeOf167
  v46 := Tryz.zeroValue167
  t51 := Tryz.underlying34
  a51 := Tryz.isAgg34
  z51 := Tryz.sizeOf34
  v51 := Tryz.zeroValue34
  t53 := Tryz.underlying140
  a53 := Tryz.isAgg140
  z53 := Tryz.sizeOf140
  v53 := Tryz.zeroValue140
  t171 := Tryz.underlying279
  a171 := Tryz.isAgg279
  z171 := Tryz.sizeOf279
  v171 := Tryz.zeroValue279
  t173 := Tryz.underlying281
  a173 := Tryz.isAgg281
  z173 := Tryz.sizeOf281
  v173 := Tryz.zeroValue281
  t212 := Tryz.underlying294
  a212 := Tryz.isAgg294
  z212 := Tryz.sizeOf294
  v212 := Tryz.zeroValue294
  t213 := Tryz.underlying295
  a213 := Tryz.isAgg295
  z213 := Tryz.sizeOf295
  t232 := Tryz.underlying303
  a232 := Tryz.isAgg303
  z232 := Tryz.sizeOf303
  v232 := Tryz.zeroValue303
  t233 := Tryz.underlying304
  a233 := Tryz.isAgg304
  z233 := Tryz.sizeOf304
  v233 := Tryz.zeroValue304
  g17 := by kernel_rfl
  g18 := by kernel_rfl
  g19 := by kernel_rfl
  i0 := by kernel_rfl
  i2 := by kernel_rfl
  i3 := by kernel_rfl
  i4 := by kernel_rfl
  i5 := by kernel_rfl
  i9 := by kernel_rfl
  i20 := by kernel_rfl
  i37 := by kernel_rfl
  i46 := by kernel_rfl
  i51 := by kernel_rfl
  i53 := by kernel_rfl
  i171 := by kernel_rfl
  i173 := by kernel_rfl
  i212 := by kernel_rfl
  i232 := by kernel_rfl
  i233 := by kernel_rfl
  m17 := by kernel_rfl
  m18 := by kernel_rfl
  m19 := by kernel_rfl }
open Go.RowKit Go.Sort Go.Lib in
theorem Tryz.strconv_Itoa (n:Int) (h0 : -9223372036854775808<=n) (h1:n<=9223372036854775807) (w:World) (htab:Lib.TabIs Tryz.prog w "internal/strconv.uint64pow10" .u64 Lib.pow10Tab) :
  Calls Tryz.prog 73 #[.int .i64 n] w fun e w'=>e=.returned (.string ⟨(Lib.itoa n).toArray⟩)/\∃ k os,w'=grow (w.drewN k) os:=Any.strconv_Itoa Tryz.laysM171 n h0 h1 w htab
def Tryz.lays219_ren:Go.Shelf.Ren:=⟨fun | 219=>203 | 217=>182 | 225=>215 | 224=>216 | 267=>217 | 266=>202 | 314=>225 | n=>n,fun | 9=>9 | 3=>3 | 4=>4 | 5=>5 | 46=>167 | 146=>253 | 51=>34 | n=>n,fun | 1=>0 | n=>n⟩
theorem Tryz.lays219 : Go.Proofs.Lays.n219 Tryz.prog Tryz.lays219_ren := {
  mixed := by kernel_rfl
  f217 := Tryz.func182.trans (congrArg some (by kernel_rfl))
  f219 := Tryz.func203.trans (congrArg some (by kernel_rfl))
  f224 := Tryz.func216.trans (congrArg some (by kernel_rfl))
  f225 := Tryz.func215.trans (congrArg some (by kernel_rfl))
  f266 := Tryz.func202.trans (congrArg some (by kernel_rfl))
  f267 := Tryz.func217.trans (congrArg some (by kernel_rfl))
  f314 := Tryz.func225.trans (congrArg some (by kernel_rfl))
  t3 := Tryz.underlying3
  a3 := Tryz.isAgg3
  z3 := Tryz.sizeOf3
  v3 := Tryz.zeroValue3
  t4 := Tryz.underlying4
  a4 := Tryz.isAgg4
  z4 := Tryz.sizeOf4
  v4 := Tryz.zeroValue4
  t5 := Tryz.underlying5
  a5 := Tryz.isAgg5
  z5 := Tryz.sizeOf5
  v5 := Tryz.zeroValue5
  t9 := Tryz.underlying9
  a9 := Tryz.isAgg9
  z9 := Tryz.sizeOf9
  v9 := Tryz.zeroValue9
  t46 := Tryz.underlying167
  a46 := Tryz.isAgg167
  z46 := Tryz.sizeOf167
  v46 := Tryz.zeroValue167
  t51 := Tryz.underlying34
  a51 := Tryz.isAgg34
  z51 := Tryz.sizeOf34
  v51 := Tryz.zeroValue34
  t146 := Tryz.underlying253
  a146 := Tryz.isAgg253
  z146 := Tryz.sizeOf253
  v146 := Tryz.zeroValue253
  g1 := by kernel_rfl }
open Go.RowKit Go.Lib in
theorem Tryz.stringslite_Index_one (s:ByteArray) (c:UInt8) (w:World) :
  Calls Tryz.prog 203 #[.string s,.string ⟨#[c]⟩] w fun e w'=>e=.returned (.int .i64 (Lib.indexByte s.data.toList c))/\w'=w:=Any.stringslite_Index_one Tryz.lays219 s c w
def Tryz.lays143_ren:Go.Shelf.Ren:=⟨fun | 143=>209 | 219=>203 | 217=>182 | 225=>215 | 224=>216 | 267=>217 | 266=>202 | 314=>225 | n=>n,fun | 9=>9 | 3=>3 | 4=>4 | 5=>5 | 46=>167 | 146=>253 | 51=>34 | n=>n,fun | 1=>0 | n=>n⟩
theorem Tryz.lays143 : Go.Proofs.Lays.n143 Tryz.prog Tryz.lays143_ren := {
  mixed := by kernel_rfl
  f143 := Tryz.func209.trans (congrArg some (by kernel_rfl))
  f217 := Tryz.func182.trans (congrArg some (by kernel_rfl))
  f219 := Tryz.func203.trans (congrArg some (by kernel_rfl))
  f224 := Tryz.func216.trans (congrArg some (by kernel_rfl))
  f225 := Tryz.func215.trans (congrArg some (by kernel_rfl))
  f266 := Tryz.func202.trans (congrArg some (by kernel_rfl))
  f267 := Tryz.func217.trans (congrArg some (by kernel_rfl))
  f314 := Tryz.func225.trans (congrArg some (by kernel_rfl))
  t3 := Tryz.underlying3
  a3 := Tryz.isAgg3
  z3 := Tryz.sizeOf3
  v3 := Tryz.zeroValue3
  t4 := Tryz.underlying4
  a4 := Tryz.isAgg4
  z4 := Tryz.sizeOf4
  v4 := Tryz.zeroValue4
  t5 := Tryz.underlying5
  a5 := Tryz.isAgg5
  z5 := Tryz.sizeOf5
  v5 := Tryz.zeroValue5
  t9 := Tryz.underlying9
  a9 := Tryz.isAgg9
  z9 := Tryz.sizeOf9
  v9 := Tryz.zeroValue9
  t46 := Tryz.underlying167
  a46 := Tryz.isAgg167
  z46 := Tryz.sizeOf167
  v46 := Tryz.zeroValue167
  t51 := Tryz.underlying34
  a51 := Tryz.isAgg34
  z51 := Tryz.sizeOf34
  v51 := Tryz.zeroValue34
  t146 := Tryz.underlying253
  a146 := Tryz.isAgg253
  z146 := Tryz.sizeOf253
  v146 := Tryz.zeroValue253
  g1 := by kernel_rfl }
open Go.RowKit Go.Lib in
theorem Tryz.strings_Index_one (s:ByteArray) (c:UInt8) (w:World) :
  Calls Tryz.prog 209 #[.string s,.string ⟨#[c]⟩] w fun e w'=>e=.returned (.int .i64 (Lib.indexByte s.data.toList c))/\w'=w:=Any.strings_Index_one Tryz.lays143 s c w
def Tryz.lays138_ren:Go.Shelf.Ren:=⟨fun | 138=>208 | 195=>220 | 218=>222 | 143=>209 | 219=>203 | 217=>182 | 225=>215 | 224=>216 | 267=>217 | 266=>202 | 314=>225 | n=>n,fun | 9=>9 | 3=>3 | 4=>4 | 5=>5 | 0=>0 | 46=>167 | 146=>253 | 51=>34 | n=>n,fun | 1=>0 | n=>n⟩
theorem Tryz.lays138 : Go.Proofs.Lays.n138 Tryz.prog Tryz.lays138_ren := {
  mixed := by kernel_rfl
  f138 := Tryz.func208.trans (congrArg some (by kernel_rfl))
  f143 := Tryz.func209.trans (congrArg some (by kernel_rfl))
  f195 := Tryz.func220.trans (congrArg some (by kernel_rfl))
  f217 := Tryz.func182.trans (congrArg some (by kernel_rfl))
  f218 := Tryz.func222.trans (congrArg some (by kernel_rfl))
  f219 := Tryz.func203.trans (congrArg some (by kernel_rfl))
  f224 := Tryz.func216.trans (congrArg some (by kernel_rfl))
  f225 := Tryz.func215.trans (congrArg some (by kernel_rfl))
  f266 := Tryz.func202.trans (congrArg some (by kernel_rfl))
  f267 := Tryz.func217.trans (congrArg some (by kernel_rfl))
  f314 := Tryz.func225.trans (congrArg some (by kernel_rfl))
  t0 := Tryz.underlying0
  a0 := Tryz.isAgg0
  z0 := Tryz.sizeOf0
  v0 := Tryz.zeroValue0
  t3 := Tryz.underlying3
  a3 := Tryz.isAgg3
  z3 := Tryz.sizeOf3
  v3 := Tryz.zeroValue3
  t4 := Tryz.underlying4
  a4 := Tryz.isAgg4
  z4 := Tryz.sizeOf4
  v4 := Tryz.zeroValue4
  t5 := Tryz.underlying5
  a5 := Tryz.isAgg5
  z5 := Tryz.sizeOf5
  v5 := Tryz.zeroValue5
  t9 := Tryz.underlying9
  a9 := Tryz.isAgg9
  z9 := Tryz.sizeOf9
  v9 := Tryz.zeroValue9
  t46 := Tryz.underlying167
  a46 := Tryz.isAgg167
  z46 := Tryz.sizeOf167
  v46 := Tryz.zeroValue167
  t51 := Tryz.underlying34
  a51 := Tryz.isAgg34
  z51 := Tryz.sizeOf34
  v51 := Tryz.zeroValue34
  t146 := Tryz.underlying253
  a146 := Tryz.isAgg253
  z146 := Tryz.sizeOf253
  v146 := Tryz.zeroValue253
  g1 := by kernel_rfl }
open Go.RowKit Go.Lib in
theorem Tryz.strings_Count_one (s:ByteArray) (c:UInt8) (w:World) :
  Calls Tryz.prog 208 #[.string s,.string ⟨#[c]⟩] w fun e w'=>e=.returned (.int .i64 (Lib.countByte s.data.toList c))/\w'=w:=Any.strings_Count_one Tryz.lays138 s c w
def Tryz.lays221_ren:Go.Shelf.Ren:=⟨fun | 221=>192 | 268=>207 | 138=>208 | 143=>209 | 195=>220 | 197=>221 | 218=>222 | 219=>203 | 260=>226 | 217=>182 | 225=>215 | 224=>216 | 267=>217 | 266=>202 | 314=>225 | n=>n,fun | 9=>9 | 3=>3 | 31=>96 | 4=>4 | 0=>0 | 105=>300 | 21=>21 | 5=>5 | 46=>167 | 119=>305 | 139=>308 | 138=>307 | 146=>253 | 51=>34 | n=>n,fun | 1=>0 | 3=>4 | 4=>5 | n=>n⟩
theorem Tryz.lays221 : Go.Proofs.Lays.n221 Tryz.prog Tryz.lays221_ren := {
  mixed := by kernel_rfl
  f138 := Tryz.func208.trans (congrArg some (by kernel_rfl))
  f143 := Tryz.func209.trans (congrArg some (by kernel_rfl))
  f195 := Tryz.func220.trans (congrArg some (by kernel_rfl))
  f197 := Tryz.func221.trans (congrArg some (by kernel_rfl))
  f217 := Tryz.func182.trans (congrArg some (by kernel_rfl))
  f218 := Tryz.func222.trans (congrArg some (by kernel_rfl))
  f219 := Tryz.func203.trans (congrArg some (by kernel_rfl))
  f221 := Tryz.func192.trans (congrArg some (by kernel_rfl))
  f224 := Tryz.func216.trans (congrArg some (by kernel_rfl))
  f225 := Tryz.func215.trans (congrArg some (by kernel_rfl))
  f260 := Tryz.func226.trans (congrArg some (by kernel_rfl))
  f266 := Tryz.func202.trans (congrArg some (by kernel_rfl))
  f267 := Tryz.func217.trans (congrArg some (by kernel_rfl))
  f268 := Tryz.func207.trans (congrArg some (by kernel_rfl))
  f314 := Tryz.func225.trans (congrArg some (by kernel_rfl))
  t0 := Tryz.underlying0
  a0 := Tryz.isAgg0
  z0 := Tryz.sizeOf0
  v0 := Tryz.zeroValue0
  t3 := Tryz.underlying3
  a3 := Tryz.isAgg3
  z3 := Tryz.sizeOf3
  v3 := Tryz.zeroValue3
  t4 := Tryz.underlying4
  a4 := Tryz.isAgg4
  z4 := Tryz.sizeOf4
  v4 := Tryz.zeroValue4
  t5 := Tryz.underlying5
  a5 := Tryz.isAgg5
  z5 := Tryz.sizeOf5
  v5 := Tryz.zeroValue5
  t9 := Tryz.underlying9
  a9 := Tryz.isAgg9
  z9 := Tryz.sizeOf9
  v9 := Tryz.zeroValue9
  t21 := Tryz.underlying21
  a21 := Tryz.isAgg21
  z21 := Tryz.sizeOf21
  v21 := Tryz.zeroValue21
  t31 := Tryz.underlying96
  a31 := Tryz.isAgg96
  z31 := Tryz.sizeOf96
  v31 := Tryz.zeroValue96
  t46 := Tryz.underlying167
  a46 := Tryz.isAgg167
  z46 := Tryz.sizeOf167
  v46 := Tryz.zeroValue167
  t51 := Tryz.underlying34
  a51 := Tryz.isAgg34
  z51 := Tryz.sizeOf34
  v51 := Tryz.zeroValue34
  t105 := Tryz.underlying300
  a105 := Tryz.isAgg300
  z105 := Tryz.sizeOf300
  v105 := Tryz.zeroValue300
  t119 := Tryz.underlying305
  a119 := Tryz.isAgg305
  z119 := Tryz.sizeOf305
  t138 := Tryz.underlying307
  a138 := Tryz.isAgg307
  z138 := Tryz.sizeOf307
  v138 := Tryz.zeroValue307
  t139 := Tryz.underlying308
  a139 := Tryz.isAgg308
  z139 := Tryz.sizeOf308
  v139 := Tryz.zeroValue308
  t146 := Tryz.underlying253
  a146 := Tryz.isAgg253
  z146 := Tryz.sizeOf253
  v146 := Tryz.zeroValue253
  g1 := by kernel_rfl
  g3 := by kernel_rfl
  g4 := by kernel_rfl }
def Tryz.lays105_ren:Go.Shelf.Ren:=⟨fun | 105=>75 | 212=>120 | 99=>121 | 165=>122 | 166=>123 | 170=>124 | 169=>125 | 263=>165 | 264=>166 | 206=>167 | 240=>168 | 241=>169 | 276=>197 | 277=>198 | n=>n,fun | 9=>9 | 3=>3 | 4=>4 | 20=>20 | 0=>0 | 46=>167 | 109=>199 | 5=>5 | 72=>204 | 76=>208 | 51=>34 | 146=>253 | 53=>140 | 148=>255 | 70=>202 | 37=>155 | 75=>207 | 127=>257 | 164=>283 | 80=>211 | n=>n,fun | n=>n⟩
theorem Tryz.lays105 : Go.Proofs.Lays.n105 Tryz.prog Tryz.lays105_ren := {
  mixed := by kernel_rfl
  f99 := Tryz.func121.trans (congrArg some (by kernel_rfl))
  f105 := Tryz.func75.trans (congrArg some (by kernel_rfl))
  f165 := Tryz.func122.trans (congrArg some (by kernel_rfl))
  f166 := Tryz.func123.trans (congrArg some (by kernel_rfl))
  f169 := Tryz.func125.trans (congrArg some (by kernel_rfl))
  f170 := Tryz.func124.trans (congrArg some (by kernel_rfl))
  f206 := Tryz.func167.trans (congrArg some (by kernel_rfl))
  f212 := Tryz.func120.trans (congrArg some (by kernel_rfl))
  f240 := Tryz.func168.trans (congrArg some (by kernel_rfl))
  f241 := Tryz.func169.trans (congrArg some (by kernel_rfl))
  f263 := Tryz.func165.trans (congrArg some (by kernel_rfl))
  f264 := Tryz.func166.trans (congrArg some (by kernel_rfl))
  f276 := Tryz.func197.trans (congrArg some (by kernel_rfl))
  f277 := Tryz.func198.trans (congrArg some (by kernel_rfl))
  t0 := Tryz.underlying0
  a0 := Tryz.isAgg0
  z0 := Tryz.sizeOf0
  v0 := Tryz.zeroValue0
  t3 := Tryz.underlying3
  a3 := Tryz.isAgg3
  z3 := Tryz.sizeOf3
  v3 := Tryz.zeroValue3
  t4 := Tryz.underlying4
  a4 := Tryz.isAgg4
  z4 := Tryz.sizeOf4
  v4 := Tryz.zeroValue4
  t5 := Tryz.underlying5
  a5 := Tryz.isAgg5
  z5 := Tryz.sizeOf5
  v5 := Tryz.zeroValue5
  t9 := Tryz.underlying9
  a9 := Tryz.isAgg9
  z9 := Tryz.sizeOf9
  v9 := Tryz.zeroValue9
  t20 := Tryz.underlying20
  a20 := Tryz.isAgg20
  z20 := Tryz.sizeOf20
  v20 := Tryz.zeroValue20
  t37 := Tryz.underlying155
  a37 := Tryz.isAgg155
  z37 := Tryz.sizeOf155
  v37 := Tryz.zeroValue155
  t46 := Tryz.underlying167
  a46 := Tryz.isAgg167
  z46 := Tryz.sizeOf167
  v46 := Tryz.zeroValue167
  t51 := Tryz.underlying34
  a51 := Tryz.isAgg34
  z51 := Tryz.sizeOf34
  v51 := Tryz.zeroValue34
  t53 := Tryz.underlying140
  a53 := Tryz.isAgg140
  z53 := Tryz.sizeOf140
  v53 := Tryz.zeroValue140
  t70 := Tryz.underlying202
  a70 := Tryz.isAgg202
  z70 := Tryz.sizeOf202
  v70 := Tryz.zeroValue202
  t72 := Tryz.underlying204
  a72 := Tryz.isAgg204
  z72 := Tryz.sizeOf204
  v72 := Tryz.zeroValue204
  t75 := Tryz.underlying207
  a75 := Tryz.isAgg207
  z75 := Tryz.sizeOf207
  v75 := Tryz.zeroValue207
  t76 := Tryz.underlying208
  a76 := Tryz.isAgg208
  z76 := Tryz.sizeOf208
  v76 := Tryz.zeroValue208
  t109 := Tryz.underlying199
  a109 := Tryz.isAgg199
  z109 := Tryz.sizeOf199
  v109 := Tryz.zeroValue199
  t127 := Tryz.underlying257
  a127 := Tryz.isAgg257
  z127 := Tryz.sizeOf257
  v127 := Tryz.zeroValue257
  t146 := Tryz.underlying253
  a146 := Tryz.isAgg253
  z146 := Tryz.sizeOf253
  v146 := Tryz.zeroValue253
  t148 := Tryz.underlying255
  a148 := Tryz.isAgg255
  z148 := Tryz.sizeOf255
  v148 := Tryz.zeroValue255
  t164 := Tryz.underlying283
  a164 := Tryz.isAgg283
  z164 := Tryz.sizeOf283
  v164 := Tryz.zeroValue283 }
theorem Tryz.Builder_Extra_105 : Builder.Extra Tryz.prog Tryz.lays105_ren := {
  sizeBuilder := by kernel_rfl
  liesBuilder := by kernel_rfl
  t5 := Tryz.underlying5
  a5 := Tryz.isAgg5
  z5 := Tryz.sizeOf5
  v5 := Tryz.zeroValue5
  infoByte := by kernel_rfl
  cellsByte := by kernel_rfl
  sizeByte := by kernel_rfl
  neB5 := by decide }
open Go.RowKit Go.Lib in
theorem Tryz.strings_Repeat (s:ByteArray) (c:Nat) (w:World) (hc:c<=9223372036854775807) (hlen:s.size * c<=140737488355328) :
  Calls Tryz.prog 75 #[.string s,.int .i64 c] w fun e w'=>e=.returned (.string ⟨(Lib.repeatL s.data.toList c).toArray⟩)/\Below w.heap.size w w':=Any.strings_Repeat Tryz.lays105 Tryz.Builder_Extra_105 s c w hc hlen
end Go.Proofs
namespace Go.Proofs.YtcebndkiagbddaaGreatDoor
section
def digs:List UInt8:=[48,49,50,51,52,53,54,55,56,57,97,98,99,100,101,102]
def Qim (n:Nat):UInt8:=digs.getD n 0
def Qcx (l:List UInt8):List UInt8:=l.flatMap fun b=>[Qim (b.toNat / 16),Qim (b.toNat % 16)]
def Wx (c:UInt8):Int:=Lib.indexByte digs c
def Q3:List UInt8->Option (List UInt8)
 | c::d::r=>if Wx c < 0\/Wx d < 0 then none else (Q3 r).map (Qxv (16 * Wx c+Wx d).toNat :: ·)
 | []=>some []
 | [_]=>none
theorem Qcy (c:UInt8) : -1<=Wx c/\Wx c < 16:=by
 have h:∀ (l:List UInt8),-1<=Lib.indexByte l c/\Lib.indexByte l c < l.length\/Lib.indexByte l c = -1:=by
  intro l
  induction l with
  | nil=>exact .inr rfl
  | cons b l ih =>
   unfold Lib.indexByte;by_cases h1:(b == c)=true
   ·rw [if_pos h1];left;simp only [Qxo,Int.natCast_add];omega
   ·rw [if_neg h1];by_cases h2:(Lib.indexByte l c == -1)=true
    ·rw [if_pos h2];exact .inr rfl
    ·rw [if_neg h2];have h3:Lib.indexByte l c ≠ -1:=by simpa using h2
     left;simp only [Qxo,Int.natCast_add];omega
 have:=h digs;have e:digs.length=16:=rfl;unfold Wx;omega
theorem QdO:∀ (l bs:List UInt8) (c d:UInt8),Q3 l=some bs->Q3 (l++[c,d])=if Wx c < 0\/Wx d < 0 then none else some (bs++[Qxv (16 * Wx c+Wx d).toNat])
 | [],bs,c,d,h=>by
  simp [Q3] at h;subst h;simp only [Qxy,Q3,Option.map_some]
 | [a],bs,c,d,h=>by simp [Q3] at h
 | a::b::l,bs,c,d,h=>by
  unfold Q3 at h;by_cases hc:Wx a < 0\/Wx b < 0
  ·rw [if_pos hc] at h;cases h
  ·rw [if_neg hc] at h
   cases hu:Q3 l with
   | none=>rw [hu] at h;cases h
   | some x =>
    rw [hu] at h;simp at h;subst h;show Q3 (a::b::(l++[c,d]))=_;unfold Q3;rw [if_neg hc,QdO l x c d hu];split <;> simp
theorem QdP:∀ (l m:List UInt8),Q3 l=none->l.length % 2=0->Q3 (l++m)=none
 | [],m,h,_=>by simp [Q3] at h
 | [a],m,_,h=>by simp at h
 | a::b::l,m,h,h2=>by
  show Q3 (a::b::(l++m))=none;unfold Q3 at h ⊢;by_cases hc:Wx a < 0\/Wx b < 0
  ·rw [if_pos hc]
  ·rw [if_neg hc] at h ⊢;have:Q3 l=none:=by simpa using h
   rw [QdP l m this (by simp at h2;omega)];rfl
theorem QnT:∀ (l bs:List UInt8),Q3 l=some bs->l.length=2 * bs.length
 | [],bs,h=>by simp [Q3] at h;subst h;rfl
 | [a],bs,h=>by simp [Q3] at h
 | a::b::l,bs,h=>by
  unfold Q3 at h;by_cases hc:Wx a < 0\/Wx b < 0
  ·rw [if_pos hc] at h;cases h
  ·rw [if_neg hc] at h
   cases hu:Q3 l with
   | none=>rw [hu] at h;cases h
   | some x=>rw [hu] at h;simp at h;subst h;have:=QnT l x hu;simp;omega
theorem Qin:∀ (l:List UInt8) (c:UInt8),¬ Lib.indexByte l c < 0->l.getD (Lib.indexByte l c).toNat 0=c
 | [],c,h=>absurd (show (-1:Int) < 0 by decide) h
 | b::l,c,h=>by
  unfold Lib.indexByte at h ⊢;by_cases h1:(b == c)=true
  ·rw [if_pos h1];simpa using h1
  ·rw [if_neg h1] at h ⊢;by_cases h2:(Lib.indexByte l c == -1)=true
   ·rw [if_pos h2] at h;exact absurd (by decide) h
   ·rw [if_neg h2] at h ⊢;have h3:Lib.indexByte l c ≠ -1:=by simpa using h2
    by_cases h4:Lib.indexByte l c < 0
    ·exfalso
     have:∀ (l:List UInt8),Lib.indexByte l c < 0->Lib.indexByte l c = -1:=by
      intro l
      induction l with
      | nil=>intro _;rfl
      | cons b l ih =>
       unfold Lib.indexByte;by_cases h1:(b == c)=true
       ·rw [if_pos h1];intro h;omega
       ·rw [if_neg h1];by_cases h2:(Lib.indexByte l c == -1)=true
        ·rw [if_pos h2];intro _;rfl
        ·rw [if_neg h2];intro h;have h3:Lib.indexByte l c ≠ -1:=by simpa using h2
         by_cases h5:Lib.indexByte l c < 0
         ·exact absurd (ih h5) h3
         ·omega
     exact h3 (this l h4)
    ·have:=Qin l c h4;rw [show (Lib.indexByte l c+1).toNat=(Lib.indexByte l c).toNat+1 from by omega];simpa using this
theorem Qfi (c:UInt8) (h:¬ Wx c < 0):Qim (Wx c).toNat=c:=Qin digs c h
theorem JI:∀ (l bs:List UInt8),Q3 l=some bs->Qcx bs=l
 | [],bs,h=>by simp [Q3] at h;subst h;rfl
 | [a],bs,h=>by simp [Q3] at h
 | a::b::l,bs,h=>by
  unfold Q3 at h;by_cases hc:Wx a < 0\/Wx b < 0
  ·rw [if_pos hc] at h;cases h
  ·rw [if_neg hc] at h
   cases hu:Q3 l with
   | none=>rw [hu] at h;cases h
   | some x =>
    rw [hu] at h;simp at h;subst h;have ha:=Qcy a;have hb:=Qcy b;have e:(Qxv (16 * Wx a+Wx b).toNat).toNat=(16 * Wx a+Wx b).toNat:=by rw [UInt8.toNat_ofNat'];omega
    show Qim ((Qxv (16 * Wx a+Wx b).toNat).toNat / 16)::Qim ((Qxv (16 * Wx a+Wx b).toNat).toNat % 16)::Qcx x=_;rw [e,JI l x hu,show (16 * Wx a+Wx b).toNat / 16=(Wx a).toNat from by omega,show (16 * Wx a+Wx b).toNat % 16=(Wx b).toNat from by omega,Qfi a (fun h=>hc (.inl h)),Qfi b (fun h=>hc (.inr h))]
def QdQ (l:List UInt8):Int:=if 2000 < (l.length:Int) then 1 else if ¬ (l.length:Int) % 2=0 then 3 else if Q3 l=none then 3 else 0
def Qgv (l:List UInt8):List UInt8:=if 2000 < (l.length:Int) then [] else if ¬ (l.length:Int) % 2=0 then [] else (Q3 l).getD []
def ZX (l:List UInt8):Int:=if ¬ (l.length:Int)=64 then 1 else QdQ l
theorem Qqv {l bs:List UInt8} (h1:¬ 2000 < (l.length:Int)) (h2:(l.length:Int) % 2=0) (h:Q3 l=some bs):QdQ l=0/\Qgv l=bs:=by
 unfold QdQ Qgv;rw [if_neg h1,if_neg (by omega),if_neg (by rw [h];simp),if_neg h1,if_neg (by omega),h];exact ⟨rfl,rfl⟩
theorem Qt4 {l:List UInt8} (h1:¬ 2000 < (l.length:Int)) (h2:(l.length:Int) % 2=0) (h:Q3 l=none):QdQ l=3/\Qgv l=[]:=by
 unfold QdQ Qgv;rw [if_neg h1,if_neg (by omega),if_pos h,if_neg h1,if_neg (by omega),h];exact ⟨rfl,rfl⟩
theorem Qqw {l bs:List UInt8} {j:Nat} (h:Q3 (l.take j)=some bs) (h2:j+1 < l.length):Q3 (l.take (j+2))=if Wx (l.getD j 0) < 0\/Wx (l.getD (j+1) 0) < 0 then none else some (bs++[Qxv (16 * Wx (l.getD j 0)+Wx (l.getD (j+1) 0)).toNat]):=by
 have e:l.take (j+2)=l.take j++[l.getD j 0,l.getD (j+1) 0]:=by
  have hj:j < l.length:=by omega
  have d1:l.getD j 0=l[j]:=by rw [Qxq,Qxp hj];rfl
  have d2:l.getD (j+1) 0=l[j+1]:=by rw [Qxq,Qxp h2];rfl
  rw [d1,d2,show j+2=j+1+1 from rfl,Qxx h2,Qxx hj,QxB];rfl
 rw [e];exact QdO _ _ _ _ h
theorem Qky {l:List UInt8} {j:Nat} (h:Q3 (l.take j)=none) (hj:j % 2=0) (h2:j<=l.length):Q3 l=none:=by
 have e:=QdP (l.take j) (l.drop j) h (by rw [List.length_take];omega)
 rwa [List.take_append_drop] at e
end
section
def ZK (k:Nat):Nat:=4294967296 - 2 ^ (32 - k)
def Zl (a k:Nat):Nat:=a / 2 ^ (32 - k) * 2 ^ (32 - k)
theorem two32 (k:Nat) (h:k<=32):2 ^ (32 - k) * 2 ^ k=4294967296:=by
 rw [<- Nat.pow_add,show 32 - k+k=32 from by omega]
theorem Qiq (k:Nat):2 ^ (32 - k)<=4294967296:=by
 have:2 ^ (32 - k)<=2 ^ 32:=Qxz (by omega) (by omega);simpa using this
theorem QdR (k:Nat):ZK k < 4294967296:=by
 unfold ZK;have:=Qxu (32 - k);omega
theorem QkA (k:Nat):(4294967295 * 2 ^ (32 - k)) % 4294967296=ZK k:=by
 unfold ZK;have h:=Qiq k;have h1:=Qxu (32 - k);generalize 2 ^ (32 - k)=p at *;have:4294967295 * p=(p - 1) * 4294967296+(4294967296 - p):=by omega
 rw [this];omega
theorem Qfj (a k:Nat) (ha:a < 4294967296) (hk:k<=32):a &&& ZK k=Zl a k:=by
 apply QxL;intro i
 have e:ZK k=(2 ^ k - 1) * 2 ^ (32 - k):=by
  unfold ZK;rw [Nat.sub_mul,Nat.one_mul,Nat.mul_comm,two32 k hk]
 rw [Nat.testBit_and,e,Zl,QxD,QxD,Nat.testBit_two_pow_sub_one,Nat.testBit_div_two_pow];by_cases h:32 - k<=i
 ·rw [Nat.sub_add_cancel h];by_cases h2:i - (32 - k) < k
  ·simp [h,h2]
  ·have:a.testBit i=false:=QxH (QxA ha (by
    have:2 ^ 32<=2 ^ i:=Qxz (by omega) (by omega)
    simpa using this))
   simp [this]
 ·simp [h]
theorem Qgx (a k:Nat):a &&& (4294967295 - ZK k)=a % 2 ^ (32 - k):=by
 have h:=Qiq k;have h1:=Qxu (32 - k);have:4294967295 - ZK k=2 ^ (32 - k) - 1:=by unfold ZK;omega
 rw [this,Nat.and_two_pow_sub_one_eq_mod]
theorem Qgy (a k:Nat):Zl a k<=a:=Nat.div_mul_le_self _ _
theorem QaJ (a k:Nat):Zl a k % 2 ^ (32 - k)=0:=Nat.mul_mod_left _ _
theorem V2 {a k:Nat} (h:a % 2 ^ (32 - k)=0):Zl a k=a:=Nat.div_mul_cancel (Qxw h)
def WO (a:Nat) (n:Int):Int:=if n < 0\/32 < n then 4 else if a % 2 ^ (32 - n.toNat)≠0 then 3 else 0
def Zm (a:Nat) (n:Int):Prop:=0<=n/\n<=32/\a % 2 ^ (32 - n.toNat)=0
instance (a:Nat) (n:Int):Decidable (Zm a n):=by unfold Zm;infer_instance
theorem WL {a:Nat} {n:Int}:WO a n=0↔Zm a n:=by
 unfold WO Zm;by_cases h:n < 0\/32 < n
 ·rw [if_pos h];constructor
  ·intro h;cases h
  ·rintro ⟨h1,h2,_⟩;omega
 ·rw [if_neg h];by_cases h2:a % 2 ^ (32 - n.toNat)≠0
  ·rw [if_pos h2];constructor
   ·intro h;cases h
   ·rintro ⟨_,_,h3⟩;exact absurd h3 h2
  ·rw [if_neg h2];exact ⟨fun _=>⟨by omega,by omega,by simpa using h2⟩,fun _=>rfl⟩
theorem QdS {a:Nat} {n:Int} (h:¬ Zm a n):WO a n=4\/WO a n=3:=by
 unfold WO;by_cases h1:n < 0\/32 < n
 ·rw [if_pos h1];exact .inl rfl
 ·rw [if_neg h1];by_cases h2:a % 2 ^ (32 - n.toNat)≠0
  ·rw [if_pos h2];exact .inr rfl
  ·exact absurd ⟨by omega,by omega,by simpa using h2⟩ h
def Qir (a:Nat) (n:Int) (x:Nat):Bool:=decide (Zm a n/\Zl x n.toNat=a)
def YY (a:Nat) (n:Int) (b:Nat) (m:Int):Bool:=decide (Zm b m/\n<=m/\Qir a n b=true)
theorem Qmt (i x y:Nat) (hx:x % 2 ^ i=0) (hy:y < 2 ^ i):x ||| y=x+y:=by
 rw [<- QxF x (2 ^ i),hx,QxP];exact (Nat.two_pow_add_eq_or_of_lt hy _).symm
theorem QnU (H a j:Nat) (hj:j < 32) (hH:H % 2 ^ (j+1)=0) (hl:H < 4294967296) :
  (H+a % 2 ^ (j+1)) &&& (4294967295 - 2 ^ j)=H+a % 2 ^ j:=by
 have h0:H % 2 ^ j=0:=QxI (Nat.dvd_trans (QxG 2 (by omega)) (Qxw hH));rw [<- Qmt (j+1) H _ hH (Nat.mod_lt _ (Qxu _)),<- Qmt j H _ h0 (Nat.mod_lt _ (Qxu _))];apply QxL;intro k;have e:4294967295 - 2 ^ j=2 ^ 32 - (2 ^ j+1):=by omega
 have hp:2 ^ j < 2 ^ 32:=Nat.pow_lt_pow_right (by omega) hj;rw [Nat.testBit_and,Nat.testBit_or,Nat.testBit_or,e,Nat.testBit_two_pow_sub_succ hp,QxE,QxE,Nat.testBit_two_pow]
 have hHj:∀ k,k < j+1->H.testBit k=false:=fun k hk=>by
  rw [<- QxF H (2 ^ (j+1)),hH,QxP,Nat.testBit_two_pow_mul]
  simp;omega
 have hH32:∀ k,¬ k < 32->H.testBit k=false:=fun k hk=>QxH (QxA hl (by
  have:2 ^ 32<=2 ^ k:=Qxz (by omega) (by omega)
  simpa using this))
 by_cases h1:k < 32
 ·by_cases h2:k=j
  ·subst h2;simp [hHj]
  ·by_cases h3:k < j
   ·simp [h1,h3,hHj,show k < j+1 by omega,Ne.symm h2]
   ·simp [h1,show ¬ k < j+1 by omega,h3,show ¬ j=k by omega]
 ·simp [hH32 k h1,h1,show ¬ k < j by omega]
def Yv (a n i:Nat):Nat:=Zl a n+a % 2 ^ (32 - i)
theorem QaK (a n:Nat):Yv a n n=a:=by
 unfold Yv Zl;rw [Nat.mul_comm];exact QxF a _
theorem QkB (a n:Nat):Yv a n 32=Zl a n:=by unfold Yv;simp;omega
theorem QnV (a n i:Nat) (h:a < 4294967296) (hi:n<=i) (h32:i<=32):Yv a n i < 4294967296:=by
 have h1:=QaK a n
 have h2:a % 2 ^ (32 - i)<=a % 2 ^ (32 - n):=by
  have:2 ^ (32 - i) ∣ 2 ^ (32 - n):=QxG 2 (by omega);rw [<- Nat.mod_mod_of_dvd a this];exact Nat.mod_le _ _
 unfold Yv at *;omega
theorem Qis (a n i:Nat) (h:a < 4294967296) (hi:n<=i) (h32:i < 32):Yv a n i &&& (4294967295 - 2 ^ (31 - i))=Yv a n (i+1):=by
 unfold Yv;have e1:32 - i=31 - i+1:=by omega
 have e2:32 - (i+1)=31 - i:=by omega
 rw [e1,e2];refine QnU _ _ _ (by omega) ?_ (Nat.lt_of_le_of_lt (Qgy a n) h);exact QxI (Nat.dvd_trans (QxG 2 (by omega)) (Qxw (QaJ a n)))
end
section
def spl (c:UInt8):List UInt8->List (List UInt8)
 | []=>[[]]
 | b::l=>if b=c then []::spl c l else match spl c l with
  | []=>[[b]]
  | x::xs=>(b::x)::xs
theorem QgL (c:UInt8):∀ l,∃ x xs,spl c l=x::xs
 | []=>⟨[],[],rfl⟩
 | b::l=>by
  unfold spl;split
  ·exact ⟨_,_,rfl⟩
  ·split
   ·exact ⟨_,_,rfl⟩
   ·exact ⟨_,_,rfl⟩
theorem Qd2 {c:UInt8} (l:List UInt8):spl c (c::l)=[]::spl c l:=by rw [spl,if_pos rfl]
theorem XW {b c:UInt8} (h:b≠c) {l x xs} (e:spl c l=x::xs):spl c (b::l)=(b::x)::xs:=by rw [spl,if_neg h,e]
theorem QcB (c:UInt8):∀ l,(spl c l).length=l.count c+1
 | []=>rfl
 | b::l=>by
  by_cases h:b=c
  ·subst h;rw [Qd2,Qxo,QcB b l,QxM]
  ·obtain ⟨x,xs,e⟩:=QgL c l;have:=QcB c l;rw [XW h e,Qxo,QxJ (by simpa using h)];rw [e,Qxo] at this;exact this
theorem Qn9 (c:UInt8) (l:List UInt8):Lib.index (c::l) [c]=((0:Nat):Int):=by rw [Lib.index];simp [List.isPrefixOf]
theorem Qoa {b c:UInt8} (h:b≠c) (l:List UInt8):Lib.index (b::l) [c]=if Lib.index l [c] == -1 then -1 else Lib.index l [c]+1:=by
 have hp:([c]:List UInt8).isPrefixOf (b::l)=false:=by simp [List.isPrefixOf,Ne.symm h]
 rw [Lib.index,hp];simp
theorem Qd3 (c:UInt8):∀ l:List UInt8,Lib.splitK [c] 0 (l.count c) l=spl c l
 | []=>rfl
 | b::l=>by
  have ih:=Qd3 c l;by_cases h:b=c
  ·subst h;rw [QxM,Qd2,Lib.splitK,Qn9,<- ih];simp
  ·obtain ⟨x,xs,e⟩:=QgL c l;rw [XW h e,QxJ (by simpa using h)];rw [e] at ih
   cases hk:l.count c with
   | zero =>
    rw [hk,Lib.splitK] at ih;cases ih;rfl
   | succ k =>
    rw [hk,Lib.splitK] at ih
    have hm:¬ Lib.index l [c] = -1:=fun q=>by
     have:=Lib.count_miss q;rw [Lib.count_one] at this;omega
    have hge:=Lib.index_ge l [c];rw [if_neg (fun q=>hm (beq_iff_eq.1 q))] at ih;obtain ⟨j,hj⟩:∃ j:Nat,Lib.index l [c]=j:=⟨(Lib.index l [c]).toNat,by omega⟩;have e1:Lib.index (b::l) [c]=((j+1:Nat):Int):=by rw [Qoa h,if_neg (fun q=>hm (beq_iff_eq.1 q)),hj];omega
    rw [Lib.splitK,e1,if_neg (by simp;omega)];rw [hj] at ih;simp only [Int.toNat_natCast,QxP,List.length_singleton] at ih ⊢;rw [List.take_succ_cons,List.drop_succ_cons];cases ih;rfl
theorem QkQ (c:UInt8) (s:ByteArray):(Lib.splitB ⟨#[c]⟩ 0 (Lib.countB s ⟨#[c]⟩) s).map (·.data.toList)=spl c s.data.toList:=by
 rw [Lib.splitB_data];show Lib.splitK [c] 0 (Lib.count s.data.toList [c]) s.data.toList=_;rw [Lib.count_one,Qd3]
theorem Wl (x y:List UInt8) (r:List (List UInt8)) (sep:List UInt8):Lib.join (x::y::r) sep=x++sep++Lib.join (y::r) sep:=by
 rw [Lib.join_cons,Lib.join_cons];simp [Lib.joinTail,QxB]
theorem Qd4 (c:UInt8):∀ l,Lib.join (spl c l) [c]=l
 | []=>Lib.join_one _ _
 | b::l=>by
  have ih:=Qd4 c l;obtain ⟨x,xs,e⟩:=QgL c l;by_cases h:b=c
  ·subst h;rw [Qd2,e,Wl,<- e,ih];rfl
  ·rw [XW h e];rw [e,Lib.join_cons] at ih;rw [Lib.join_cons,List.cons_append,ih]
theorem QmD {c:UInt8}:∀ {x:List UInt8} (t:List UInt8),c ∉ x->spl c (x++c::t)=x::spl c t
 | [],t,_=>Qd2 t
 | b::x,t,h=>by
  rw [Qxr,not_or] at h;exact XW (fun e=>h.1 e.symm) (QmD t h.2)
theorem QiM {c:UInt8}:∀ {x:List UInt8},c ∉ x->spl c x=[x]
 | [],_=>rfl
 | b::x,h=>by
  rw [Qxr,not_or] at h;exact XW (fun e=>h.1 e.symm) (QiM h.2)
theorem Qd5 {c:UInt8}:∀ {L:List (List UInt8)},L≠[]->(∀ x∈L,c ∉ x)->spl c (Lib.join L [c])=L
 | [],h,_=>absurd rfl h
 | [x],_,h=>by rw [Lib.join_one];exact QiM (h x (by simp))
 | x::y::r,_,h=>by
  rw [Wl,QxB,List.singleton_append,QmD _ (h x (by simp)),Qd5 (by simp) (fun z hz=>h z (Qxt _ hz))]
def bef (c:UInt8):List UInt8->List UInt8
 | []=>[]
 | b::l=>if b=c then [] else b::bef c l
def aft (c:UInt8):List UInt8->List UInt8
 | []=>[]
 | b::l=>if b=c then l else aft c l
theorem Xm {c:UInt8}:∀ {l:List UInt8},c∈l->bef c l++c::aft c l=l
 | b::l,h=>by
  unfold bef aft;by_cases e:b=c
  ·rw [if_pos e,if_pos e,e];rfl
  ·rw [if_neg e,if_neg e,List.cons_append,Xm (by
    rcases Qxr.1 h with h | h
    ·exact absurd h.symm e
    ·exact h)]
theorem QgM {c:UInt8}:∀ {k:List UInt8} (v:List UInt8),c ∉ k->bef c (k++c::v)=k
 | [],v,_=>by show bef c (c::v)=[];rw [bef,if_pos rfl]
 | b::k,v,h=>by
  rw [Qxr,not_or] at h;show bef c (b::(k++c::v))=_;rw [bef,if_neg (fun e=>h.1 e.symm),QgM v h.2]
theorem QgN {c:UInt8}:∀ {k:List UInt8} (v:List UInt8),c ∉ k->aft c (k++c::v)=v
 | [],v,_=>by show aft c (c::v)=v;rw [aft,if_pos rfl]
 | b::k,v,h=>by
  rw [Qxr,not_or] at h;show aft c (b::(k++c::v))=_;rw [aft,if_neg (fun e=>h.1 e.symm),QgN v h.2]
theorem QqM {c:UInt8}:∀ {l:List UInt8},c∈l->Lib.indexByte l c=((bef c l).length:Int)
 | b::l,h=>by
  unfold Lib.indexByte bef;by_cases e:b=c
  ·rw [if_pos (beq_iff_eq.2 e),if_pos e];rfl
  ·have hm:c∈l:=by
    rcases Qxr.1 h with h | h
    ·exact absurd h.symm e
    ·exact h
   have ih:=QqM hm;rw [if_neg (fun q=>e (beq_iff_eq.1 q)),if_neg e,ih,if_neg (by simp),Qxo];omega
theorem QmE {c:UInt8}:∀ {l:List UInt8},c ∉ l->Lib.indexByte l c = -1
 | [],_=>rfl
 | b::l,h=>by
  rw [Qxr,not_or] at h;unfold Lib.indexByte;rw [if_neg (fun q=>h.1 (beq_iff_eq.1 q).symm),QmE h.2];rfl
theorem Qd6 (c:UInt8):∀ l:List UInt8,(bef c l).length<=l.length
 | []=>QxQ _
 | b::l=>by
  have:=Qd6 c l;unfold bef;split
  ·simp
  ·simp;exact this
theorem QqN {c:UInt8} {l:List UInt8} (h:c∈l):l.take (bef c l).length=bef c l:=by
 have e:=Xm h
 calc l.take (bef c l).length=(bef c l++c::aft c l).take (bef c l).length:=by rw [e]
  _=bef c l:=List.take_left
theorem QqO {c:UInt8} {l:List UInt8} (h:c∈l):l.drop ((bef c l).length+1)=aft c l:=by
 have e:=Xm h
 have:(bef c l++c::aft c l).drop ((bef c l).length+1)=aft c l:=by
  rw [List.drop_append];simp
 rw [e] at this;exact this
theorem QgO {c:UInt8}:∀ {l:List UInt8},c ∉ l->bef c l=l
 | [],_=>rfl
 | b::l,h=>by
  rw [Qxr,not_or] at h;rw [bef,if_neg (fun e=>h.1 e.symm),QgO h.2]
theorem QcC {c:UInt8}:∀ {l:List UInt8},c ∉ l->aft c l=[]
 | [],_=>rfl
 | b::l,h=>by
  rw [Qxr,not_or] at h;rw [aft,if_neg (fun e=>h.1 e.symm),QcC h.2]
def okK (c:UInt8):Bool:=(decide (97<=c.toNat) && decide (c.toNat<=122)) || decide (c.toNat=95)
def okV (c:UInt8):Bool:=decide (33<=c.toNat) && decide (c.toNat<=126)
def lnC (k v:List UInt8):Int :=
 if k.length < 1\/30 < k.length\/70 < v.length then 1 else if k.all okK && v.all okV then 0 else 3
theorem QkR {k v:List UInt8} (h:lnC k v=0):1<=k.length/\k.length<=30/\v.length<=70/\k.all okK=true/\v.all okV=true:=by
 unfold lnC at h;split at h
 ·cases h
 ·split at h
  ·rename_i h1 h2
   rw [Bool.and_eq_true] at h2;exact ⟨by omega,by omega,by omega,h2.1,h2.2⟩
  ·cases h
theorem Qd7 {l:List UInt8} {i:Nat} (h:i < l.length):l.getD i 0∈l:=by
 rw [Qxq,Qxp h];exact List.getElem_mem h
theorem Qwv {c:UInt8} (h:(c.toNat < 97\/122 < c.toNat)/\¬ c=95):okK c=false:=by
 unfold okK;have e:¬ c.toNat=95:=fun q=>h.2 (UInt8.toNat_inj.1 q);rw [decide_eq_false e,Bool.or_false];rcases h.1 with k | k
 ·rw [decide_eq_false (by omega:¬ 97<=c.toNat)];rfl
 ·rw [decide_eq_false (by omega:¬ c.toNat<=122),QxK]
theorem Qui {c:UInt8} (h:¬ ((c.toNat < 97\/122 < c.toNat)/\¬ c=95)):okK c=true:=by
 unfold okK;by_cases e:c=95
 ·subst e;rfl
 ·have:¬ (c.toNat < 97\/122 < c.toNat):=fun k=>h ⟨k,e⟩;rw [decide_eq_true (by omega:97<=c.toNat),decide_eq_true (by omega:c.toNat<=122)];rfl
theorem Qww {c:UInt8} (h:c.toNat<=32\/126 < c.toNat):okV c=false:=by
 unfold okV;rcases h with k | k
 ·rw [decide_eq_false (by omega:¬ 33<=c.toNat)];rfl
 ·rw [decide_eq_false (by omega:¬ c.toNat<=126),QxK]
theorem Quj {c:UInt8} (h:¬ (c.toNat<=32\/126 < c.toNat)):okV c=true:=by
 unfold okV;rw [decide_eq_true (by omega:33<=c.toNat),decide_eq_true (by omega:c.toNat<=126)];rfl
theorem Jm {c:UInt8}:∀ {l:List UInt8} {x:List UInt8},x∈spl c l->x.length<=l.length
 | [],x,h=>by unfold spl at h;simp at h;rw [h];exact QxQ _
 | b::l,x,h=>by
  by_cases e:b=c
  ·subst e;rw [Qd2] at h;rcases Qxr.1 h with rfl | h
   ·exact QxR _
   ·have:=Jm h;simp only [Qxo];omega
  ·obtain ⟨y,ys,k⟩:=QgL c l;rw [XW e k] at h;rcases Qxr.1 h with rfl | h
   ·have:y∈spl c l:=by rw [k];simp
    have:=Jm this;simp only [Qxo];omega
   ·have:x∈spl c l:=by rw [k];exact Qxt _ h
    have:=Jm this;simp only [Qxo];omega
theorem QqP {c:UInt8} {l:List UInt8} (i:Nat):((spl c l).getD i []).length<=l.length:=by
 rw [Qxq]
 cases h:(spl c l)[i]? with
 | none=>exact QxR _
 | some x=>exact Jm (List.mem_of_getElem? h)
theorem QqQ {k v:List UInt8} {i:Nat} (h:¬ (k.length < 1\/30 < k.length\/70 < v.length)) (hi:i < k.length) (hb:okK (k.getD i 0)=false):lnC k v=3:=by
 unfold lnC;rw [if_neg h]
 cases ha:k.all okK with
 | false=>rfl
 | true=>rw [QxC] at ha;rw [ha _ (Qd7 hi)] at hb;cases hb
theorem QqR {k v:List UInt8} {i:Nat} (h:¬ (k.length < 1\/30 < k.length\/70 < v.length)) (hi:i < v.length) (hb:okV (v.getD i 0)=false):lnC k v=3:=by
 unfold lnC;rw [if_neg h]
 cases ha:v.all okV with
 | false=>rw [QxK];rfl
 | true=>rw [QxC] at ha;rw [ha _ (Qd7 hi)] at hb;cases hb
theorem QqS {k v:List UInt8} (h:¬ (k.length < 1\/30 < k.length\/70 < v.length)) (h1:(k.take k.length).all okK=true) (h2:(v.take v.length).all okV=true):lnC k v=0:=by
 rw [List.take_length] at h1 h2;unfold lnC;rw [if_neg h,h1,h2];rfl
theorem Qd8 {f:UInt8->Bool} {l:List UInt8} {i:Nat} (h:i < l.length) (h1:(l.take i).all f=true) (h2:f (l.getD i 0)=true):(l.take (i+1)).all f=true:=by
 rw [List.take_add_one,List.all_append,h1,Qxp h];rw [Qxq,Qxp h] at h2;simpa using h2
abbrev LnP:=List UInt8×List UInt8
def lnR (acc:List LnP) (i:Nat):List (List UInt8)->List LnP×Int×Int
 | []=>(acc,0,0)
 | t::ts=>if (61:UInt8)∈t then (if lnC (bef 61 t) (aft 61 t)=0 then lnR (acc++[(bef 61 t,aft 61 t)]) (i+1) ts else ([],(i:Int)+1,lnC (bef 61 t) (aft 61 t))) else ([],(i:Int)+1,3)
def Qm (s:List UInt8):List LnP×Int×Int :=
 if 3000 < s.length then ([],0,1) else if s=[] then ([],0,0) else if 60 < (spl 10 s).length then ([],0,1) else lnR [] 0 (spl 10 s)
abbrev XX (t:List UInt8):LnP:=(bef 61 t,aft 61 t)
abbrev YI (x:LnP):List UInt8:=x.1++61::x.2
theorem Qwx {L:List (List UInt8)} {i:Nat} (h:i < L.length) (acc:List LnP):lnR acc i (L.drop i) =
  if (61:UInt8)∈L.getD i [] then (if lnC (bef 61 (L.getD i [])) (aft 61 (L.getD i []))=0 then lnR (acc++[XX (L.getD i [])]) (i+1) (L.drop (i+1)) else ([],(i:Int)+1,lnC (bef 61 (L.getD i [])) (aft 61 (L.getD i [])))) else ([],(i:Int)+1,3):=by
 rw [List.drop_eq_getElem_cons h,lnR,Qxq,Qxp h];rfl
theorem Quk {L:List (List UInt8)} (acc:List LnP):lnR acc L.length (L.drop L.length)=(acc,0,0):=by rw [List.drop_length,lnR]
theorem Qob {L:List (List UInt8)} {i:Nat} (h:i < L.length):(L.take (i+1)).map XX=(L.take i).map XX++[XX (L.getD i [])]:=by
 rw [List.take_add_one,Qxp h,List.map_append,Qxq,Qxp h];rfl
theorem Jn:∀ (L:List (List UInt8)) (acc:List LnP) (i:Nat),
  (lnR acc i L=(acc++L.map XX,0,0) /\ ∀ t∈L,(61:UInt8)∈t/\lnC (bef 61 t) (aft 61 t)=0)\/(∃ n e:Int,lnR acc i L=([],n,e)/\e≠0/\(i:Int) < n/\n<=i+L.length)
 | [],acc,i=>.inl ⟨by simp [lnR],fun t h=>by cases h⟩
 | t::ts,acc,i=>by
  unfold lnR;by_cases h:(61:UInt8)∈t
  ·rw [if_pos h];by_cases k:lnC (bef 61 t) (aft 61 t)=0
   ·rw [if_pos k];rcases Jn ts (acc++[XX t]) (i+1) with ⟨e,q⟩ | ⟨n,e,h1,h2,h3,h4⟩
    ·left;rw [e];refine ⟨by simp,fun x hx=>?_⟩;rcases Qxr.1 hx with rfl | hx
     ·exact ⟨h,k⟩
     ·exact q x hx
    ·right;exact ⟨n,e,h1,h2,by omega,by simp only [Qxo];omega⟩
   ·rw [if_neg k];exact .inr ⟨_,_,rfl,k,by omega,by simp only [Qxo];omega⟩
  ·rw [if_neg h];exact .inr ⟨_,_,rfl,by decide,by omega,by simp only [Qxo];omega⟩
theorem QqT {t:List UInt8} (h:(61:UInt8)∈t):YI (XX t)=t:=Xm h
theorem Qoc {L:List (List UInt8)} (h:∀ t∈L,(61:UInt8)∈t):(L.map XX).map YI=L:=by
 rw [List.map_map];refine (QxO (g:=id) fun t ht=>?_).trans (List.map_id L);exact QqT (h t ht)
def jnE:List LnP->Int
 | []=>0
 | x::xs=>if lnC x.1 x.2=0 then jnE xs else lnC x.1 x.2
theorem QmF {L:List LnP} (h:∀ x∈L,lnC x.1 x.2=0):jnE L=0:=by
 induction L with
 | nil=>rfl
 | cons x xs ih=>rw [jnE,if_pos (h x (by simp)),ih fun y hy=>h y (Qxt _ hy)]
def jtx (L:List LnP):List UInt8:=Lib.join (L.map YI) [10]
def QiN (L:List LnP):List UInt8×Int :=
 if 60 < L.length then ([],1) else if jnE L=0 then (if 3000 < (jtx L).length then ([],1) else (jtx L,0)) else ([],jnE L)
theorem QqU {s:List UInt8} (h:(Qm s).2.2=0):QiN (Qm s).1=(s,0)/\(Qm s).2.1=0:=by
 unfold Qm at h ⊢;by_cases h1:3000 < s.length
 ·rw [if_pos h1] at h;cases h
 rw [if_neg h1] at h ⊢;by_cases h2:s=[]
 ·rw [if_pos h2,h2];exact ⟨rfl,rfl⟩
 rw [if_neg h2] at h ⊢;by_cases h3:60 < (spl 10 s).length
 ·rw [if_pos h3] at h;cases h
 rw [if_neg h3] at h ⊢;rcases Jn (spl 10 s) [] 0 with ⟨e,q⟩ | ⟨n,e,k1,k2,k3,k4⟩
 ·rw [e]
  have t:jtx ([]++(spl 10 s).map XX)=s:=by
   rw [Qxy];unfold jtx;rw [Qoc fun t ht=>(q t ht).1,Qd4]
  refine ⟨?_,rfl⟩;unfold QiN
  rw [if_neg (by simpa using h3),if_pos (QmF fun x hx=>by
   rw [Qxy] at hx;obtain ⟨t,ht,rfl⟩:=List.mem_map.1 hx
   exact (q t ht).2),t,if_neg h1]
 ·rw [k1] at h;exact absurd h k2
theorem QaW {f:UInt8->Bool} {l:List UInt8} {c:UInt8} (h:l.all f=true) (hc:f c=false):c ∉ l:=fun m=>by
 rw [QxC] at h;rw [h c m] at hc;cases hc
theorem QcD {x:LnP} (h:lnC x.1 x.2=0):(10:UInt8) ∉ YI x/\XX (YI x)=x/\(61:UInt8)∈YI x/\(YI x).length<=101/\2<=(YI x).length+1:=by
 obtain ⟨h1,h2,h3,h4,h5⟩:=QkR h;have a:(10:UInt8) ∉ x.1:=QaW h4 (by decide);have b:(10:UInt8) ∉ x.2:=QaW h5 (by decide);have c:(61:UInt8) ∉ x.1:=QaW h4 (by decide);refine ⟨fun m=>?_,?_,by simp [YI],by simp [YI];omega,by simp [YI];omega⟩
 ·rcases List.mem_append.1 m with m | m
  ·exact a m
  ·rcases Qxr.1 m with m | m
   ·cases m
   ·exact b m
 ·show (bef 61 (x.1++61::x.2),aft 61 (x.1++61::x.2))=x;rw [QgM _ c,QgN _ c]
theorem Qul {L:List LnP} (hn:L.length<=60) (h:∀ x∈L,lnC x.1 x.2=0) (hl:(jtx L).length<=3000):QiN L=(jtx L,0)/\Qm (jtx L)=(L,0,0):=by
 refine ⟨by unfold QiN;rw [if_neg (by omega),if_pos (QmF h),if_neg (by omega)],?_⟩;unfold Qm;rw [if_neg (by omega)]
 cases L with
 | nil=>rfl
 | cons x xs =>
  have hx:=QcD (h x (by simp))
  have e:spl 10 (jtx (x::xs))=(x::xs).map YI:=Qd5 (by simp) fun t ht=>by
   obtain ⟨y,hy,rfl⟩:=List.mem_map.1 ht;exact (QcD (h y hy)).1
  have hne:jtx (x::xs)≠[]:=fun q=>by
   have:(jtx (x::xs)).length=0:=by rw [q];rfl
   unfold jtx at this;rw [List.map_cons,Lib.join_cons,List.length_append] at this;simp [YI] at this
  rw [if_neg hne,e,if_neg (by simpa using hn)];rcases Jn ((x::xs).map YI) [] 0 with ⟨q,_⟩ | ⟨n,er,k1,k2,k3,k4⟩
  ·rw [q,Qxy,List.map_map];refine Prod.ext ((QxO (g:=id) fun t ht=>?_).trans (List.map_id _)) rfl;exact (QcD (h t ht)).2.1
  ·exfalso
   have:∀ (M:List LnP) (acc:List LnP) (i:Nat),(∀ y∈M,lnC y.1 y.2=0)->(lnR acc i (M.map YI)).2.2=0:=by
    intro M
    induction M with
    | nil=>intro acc i _;rfl
    | cons y ys ih =>
     intro acc i hy;have k:=QcD (hy y (by simp));rw [List.map_cons,lnR,if_pos k.2.2.1];have e1:bef 61 (YI y)=y.1:=congrArg Prod.fst k.2.1;have e2:aft 61 (YI y)=y.2:=congrArg Prod.snd k.2.1;rw [e1,e2,if_pos (hy y (by simp))];exact ih _ _ fun z hz=>hy z (Qxt _ hz)
   have z:=this (x::xs) [] 0 h;rw [k1] at z;exact k2 z
end
section
def WN (l:List Nat):List Char:=l.map Qxs
theorem JB:∀ (l:List Nat) (r:List Char),(l.all fun c=>!(Qxs c == Qxs 32))=true->wordsSigns (WN l++Qxs 32::r)=WN l::wordsSigns r
 | [],r,_=>by
  show wordsSigns (Qxs 32::r)=[]::wordsSigns r;rfl
 | c::l,r,h=>by
  simp only [List.all_cons,Bool.and_eq_true,Bool.not_eq_true',beq_eq_false_iff_ne] at h;have ih:=JB l r h.2;show wordsSigns (Qxs c::(WN l++Qxs 32::r))=(Qxs c::WN l)::wordsSigns r;rw [wordsSigns]
  ·rw [ih]
  ·exact fun e=>h.1 (e.trans rfl)
theorem Qvh {h s:List Char} {r:List (List Char)} (hc:((h == "harness".toList || h == "ownmain".toList) && isSumSigns s)=true):behindMainWord (h::s::r)=r:=by
 simp only [behindMainWord];rw [if_pos hc]
def hA:List Nat:=104::97::114::110::101::115::115::[]
def hB:List Nat:=51::48::52::51::57::51::100::99::48::99::102::102::100::99::52::55::54::102::49::51::57::101::98::99::53::102::53::57::102::57::49::101::52::54::53::52::102::50::98::50::56::100::53::48::57::56::57::57::55::99::56::57::98::48::53::54::100::55::99::54::50::98::49::54::[]
def hC:List Nat:=99::117::116::[]
def hD:List Nat:=97::116::32::99::97::116::116::108::101::99::114::101::101::112::47::99::97::116::116::108::101::99::114::101::101::112::107::101::101::112::46::67::111::110::102::79::119::110::101::100::32::99::97::116::116::108::101::99::114::101::101::112::47::99::97::116::116::108::101::99::114::101::101::112::107::101::101::112::46::65::112::112::108::121::79::119::110::32::99::97::116::116::108::101::99::114::101::101::112::47::99::97::116::116::108::101::99::114::101::101::112::107::101::101::112::46::65::112::112::108::121::71::111::111::100::32::99::97::116::116::108::101::99::114::101::101::112::47::99::97::116::116::108::101::99::114::101::101::112::107::101::101::112::46::65::112::112::108::121::77::111::118::101::115::32::99::97::116::116::108::101::99::114::101::101::112::47::99::97::116::116::108::101::99::114::101::101::112::107::101::101::112::46::65::112::112::108::121::65::108::108::32::99::97::116::116::108::101::99::114::101::101::112::47::99::97::116::116::108::101::99::114::101::101::112::107::101::101::112::46::65::112::112::108::121::84::101::120::116::32::99::97::116::116::108::101::99::114::101::101::112::47::99::97::116::116::108::101::99::114::101::101::112::107::101::101::112::46::65::112::112::108::121::84::119::105::99::101::32::99::97::116::116::108::101::99::114::101::101::112::47::99::97::116::116::108::101::99::114::101::101::112::107::101::101::112::46::83::116::97::103::101::83::116::101::112::115::32::99::97::116::116::108::101::99::114::101::101::112::47::99::97::116::116::108::101::99::114::101::101::112::107::101::101::112::46::83::116::97::103::101::65::115::105::100::101::32::99::97::116::116::108::101::99::114::101::101::112::47::99::97::116::116::108::101::99::114::101::101::112::107::101::101::112::46::83::116::97::103::101::69::110::100::115::32::99::97::116::116::108::101::99::114::101::101::112::47::99::97::116::116::108::101::99::114::101::101::112::107::101::101::112::46::83::104::111::119::66::97::99::107::32::99::97::116::116::108::101::99::114::101::101::112::47::99::97::116::116::108::101::99::114::101::101::112::107::101::101::112::46::68::105::102::102::66::97::99::107::32::99::97::116::116::108::101::99::114::101::101::112::47::99::97::116::116::108::101::99::114::101::101::112::107::101::101::112::46::68::97::101::109::111::110::67::111::109::109::105::116::115::[]
theorem Qxe:Tryz.prog.initOrder=String.ofList (WN hA++Qxs 32::(WN hB++Qxs 32::(WN hC++Qxs 32::WN hD))):=by
 conv=>lhs;whnf
 kernel_rfl
theorem Qxf:Tryz.prog.initOrder.toList=WN hA++Qxs 32::(WN hB++Qxs 32::(WN hC++Qxs 32::WN hD)):=by
 rw [Qxe,String.toList_ofList]
theorem cut_:∃ r,behindMainWord (wordsSigns Tryz.prog.initOrder.toList)=WN (99::117::116::[])::r:=by
 refine ⟨wordsSigns (WN hD),?_⟩;rw [Qxf,JB _ _ (by decide +kernel),JB _ _ (by decide +kernel),JB _ _ (by decide +kernel)];have h:((WN hA == "harness".toList || WN hA == "ownmain".toList) && isSumSigns (WN hB))=true:=by decide +kernel
 exact Qvh h
theorem QsE (r:List (List Char)):stripLifts liftWords (WN (99::117::116::[])::r)=([],WN (99::117::116::[])::r):=by kernel_rfl
theorem QsF (P:Program) (r:List (List Char)) (h:behindMainWord (wordsSigns P.initOrder.toList)=WN (99::117::116::[])::r) (h1:P.laysLater=false) (h2:P.bearsReflect=false) (h3:P.doorFits []=true):P.mayEnter=true:=by
 unfold Program.mayEnter;rw [h];simp only [QsE,h1,h2,h3,Bool.not_false,Bool.or_true,Bool.and_true];have a:((WN (99::117::116::[])::r).head? == some "cut".toList)=true:=by kernel_rfl
 have b:(QxN ([]:List String) "reflectrows" || !QxN ([]:List String) "leanrows")=true:=by kernel_rfl
 rw [a,b];simp
theorem QsG (P:Program) (r:List (List Char)) (h:behindMainWord (wordsSigns P.initOrder.toList)=WN (99::117::116::[])::r):P.headLifts=[]:=by
 unfold Program.headLifts;rw [h];simp only [QsE];have a:((WN (99::117::116::[])::r).head? == some "cut".toList)=true:=by kernel_rfl
 rw [a];rfl
theorem QsH (P:Program) (r:List (List Char)) (h:behindMainWord (wordsSigns P.initOrder.toList)=WN (99::117::116::[])::r):P.liftsFinal=false:=by
 unfold Program.liftsFinal;rw [h,QsG P r h];have a:((WN (99::117::116::[])::r).head? == some "carried".toList)=false:=by kernel_rfl
 have b:QxN ([]:List String) "finals" = false:=by kernel_rfl
 simp only [a,b,Bool.false_and,Bool.false_or]
theorem Qvi (P:Program) (r:List (List Char)) (h:behindMainWord (wordsSigns P.initOrder.toList)=WN (99::117::116::[])::r):P.make=some .cut:=by
 unfold Program.make;rw [h];have a:(WN (99::117::116::[]) == "gc".toList)=false:=by kernel_rfl
 have b:(WN (99::117::116::[]) == "spec".toList)=false:=by kernel_rfl
 have c:(WN (99::117::116::[]) == "cut".toList)=true:=by kernel_rfl
 simp only [a,b,c,Bool.false_or,Bool.true_or,if_true];rfl
theorem Qxg:Tryz.prog.laysLater=false:=by kernel_rfl
theorem Qxh:Tryz.prog.bearsReflect=false:=by kernel_rfl
theorem door_:Tryz.prog.doorFits []=true:=by kernel_rfl
theorem Qxi:Tryz.prog.mayEnter=true:=by
 obtain ⟨r,h⟩:=cut_;exact QsF _ r h Qxg Qxh door_
theorem Qxj:Tryz.prog.liftsFinal=false:=by
 obtain ⟨r,h⟩:=cut_;exact QsH _ r h
theorem make_:Tryz.prog.make=some .cut:=by
 obtain ⟨r,h⟩:=cut_;exact Qvi _ r h
theorem ZH {a b:Bool} (h:a=true) (k:b=true):(a && b)=true:=by rw [h,k];rfl
theorem QsI {x:Bool} (h:x=false):(x == Tryz.prog.liftsFinal)=true:=by rw [Qxj,h];rfl
theorem Qvj {x:Make} (h:x=.cut):(Tryz.prog.make == some x)=true:=by rw [make_,h];rfl
theorem maps_:mapsRowed Tryz.prog=true:=by kernel_rfl
theorem laid_:laidOutB Tryz.prog=true:=by kernel_rfl
theorem Qxk:Tryz.prog.stopsHeard=true:=by kernel_rfl
end
end Go.Proofs.YtcebndkiagbddaaGreatDoor
