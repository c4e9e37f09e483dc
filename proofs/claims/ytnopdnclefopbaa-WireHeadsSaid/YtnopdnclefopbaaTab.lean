/- What the types of this translation are: the table that the walk by computation reads. Written by a program (ag.py). -/
import Derived.Test.YtnopdnclefopbaaProg
import Derived.Test.YtnopdnclefopbaaTe
namespace Go.Proofs.Ytnopdnclefopbaa
set_option linter.unusedVariables false
set_option maxRecDepth 100000 in
theorem ti_2 : TIok Try.prog 2 ⟨.int .i64, false, 1, (some [.int .i64 0]), none⟩ where
  ptr := fun h => by cases h
  ks := fun l h => by cases h
  agg := by kernel_rfl
  sz := by kernel_rfl
  ze := fun z h => by cases h; exact ⟨by kernel_rfl, by kernel_rfl⟩
  int := fun k h => by cases h; kernel_rfl
  str := fun h => by cases h
  bool := fun h => by cases h
  sl := fun e s b z h => by cases h
  st := fun pl h => by cases h
  ar := fun n s e h => by cases h
set_option maxRecDepth 100000 in
theorem ti_3 : TIok Try.prog 3 ⟨.int .i64, false, 1, (some [.int .i64 0]), none⟩ where
  ptr := fun h => by cases h
  ks := fun l h => by cases h
  agg := by kernel_rfl
  sz := by kernel_rfl
  ze := fun z h => by cases h; exact ⟨by kernel_rfl, by kernel_rfl⟩
  int := fun k h => by cases h; kernel_rfl
  str := fun h => by cases h
  bool := fun h => by cases h
  sl := fun e s b z h => by cases h
  st := fun pl h => by cases h
  ar := fun n s e h => by cases h
set_option maxRecDepth 100000 in
theorem ti_4 : TIok Try.prog 4 ⟨.bool, false, 1, (some [.bool false]), none⟩ where
  ptr := fun h => by cases h
  ks := fun l h => by cases h
  agg := by kernel_rfl
  sz := by kernel_rfl
  ze := fun z h => by cases h; exact ⟨by kernel_rfl, by kernel_rfl⟩
  int := fun k h => by cases h
  str := fun h => by cases h
  bool := fun h => by exact by kernel_rfl
  sl := fun e s b z h => by cases h
  st := fun pl h => by cases h
  ar := fun n s e h => by cases h
set_option maxRecDepth 100000 in
theorem ti_5 : TIok Try.prog 5 ⟨.int .u8, false, 1, (some [.int .u8 0]), none⟩ where
  ptr := fun h => by cases h
  ks := fun l h => by cases h
  agg := by kernel_rfl
  sz := by kernel_rfl
  ze := fun z h => by cases h; exact ⟨by kernel_rfl, by kernel_rfl⟩
  int := fun k h => by cases h; kernel_rfl
  str := fun h => by cases h
  bool := fun h => by cases h
  sl := fun e s b z h => by cases h
  st := fun pl h => by cases h
  ar := fun n s e h => by cases h
set_option maxRecDepth 100000 in
theorem ti_9 : TIok Try.prog 9 ⟨.str, false, 1, (some [.string ⟨#[]⟩]), none⟩ where
  ptr := fun h => by cases h
  ks := fun l h => by cases h
  agg := by kernel_rfl
  sz := by kernel_rfl
  ze := fun z h => by cases h; exact ⟨by kernel_rfl, by kernel_rfl⟩
  int := fun k h => by cases h
  str := fun h => by exact by kernel_rfl
  bool := fun h => by cases h
  sl := fun e s b z h => by cases h
  st := fun pl h => by cases h
  ar := fun n s e h => by cases h
set_option maxRecDepth 100000 in
theorem ti_11 : TIok Try.prog 11 ⟨.str, false, 1, (some [.string ⟨#[]⟩]), none⟩ where
  ptr := fun h => by cases h
  ks := fun l h => by cases h
  agg := by kernel_rfl
  sz := by kernel_rfl
  ze := fun z h => by cases h; exact ⟨by kernel_rfl, by kernel_rfl⟩
  int := fun k h => by cases h
  str := fun h => by exact by kernel_rfl
  bool := fun h => by cases h
  sl := fun e s b z h => by cases h
  st := fun pl h => by cases h
  ar := fun n s e h => by cases h
set_option maxRecDepth 100000 in
theorem ti_12 : TIok Try.prog 12 ⟨.int .u64, false, 1, (some [.int .u64 0]), none⟩ where
  ptr := fun h => by cases h
  ks := fun l h => by cases h
  agg := by kernel_rfl
  sz := by kernel_rfl
  ze := fun z h => by cases h; exact ⟨by kernel_rfl, by kernel_rfl⟩
  int := fun k h => by cases h; kernel_rfl
  str := fun h => by cases h
  bool := fun h => by cases h
  sl := fun e s b z h => by cases h
  st := fun pl h => by cases h
  ar := fun n s e h => by cases h
set_option maxRecDepth 100000 in
theorem ti_23 : TIok Try.prog 23 ⟨.st [(0, 1, true), (1, 1, true), (2, 1, true), (3, 1, true)], true, 4, (some [.int .i64 0, .int .i64 0, .int .i64 0, .string ⟨#[]⟩]), (some [.i .i64, .i .i64, .i .i64, .s])⟩ where
  ptr := fun h => by cases h
  ks := fun l h => by cases h; exact ⟨by kernel_rfl, by kernel_rfl⟩
  agg := by kernel_rfl
  sz := by kernel_rfl
  ze := fun z h => by cases h; exact ⟨by kernel_rfl, by kernel_rfl⟩
  int := fun k h => by cases h
  str := fun h => by cases h
  bool := fun h => by cases h
  sl := fun e s b z h => by cases h
  st := fun pl h => by cases h; kernel_rfl
  ar := fun n s e h => by cases h
set_option maxRecDepth 100000 in
theorem ti_24 : TIok Try.prog 24 ⟨.int .u32, false, 1, (some [.int .u32 0]), none⟩ where
  ptr := fun h => by cases h
  ks := fun l h => by cases h
  agg := by kernel_rfl
  sz := by kernel_rfl
  ze := fun z h => by cases h; exact ⟨by kernel_rfl, by kernel_rfl⟩
  int := fun k h => by cases h; kernel_rfl
  str := fun h => by cases h
  bool := fun h => by cases h
  sl := fun e s b z h => by cases h
  st := fun pl h => by cases h
  ar := fun n s e h => by cases h
set_option maxRecDepth 100000 in
theorem ti_26 : TIok Try.prog 26 ⟨.st [(0, 1, true), (1, 1, true)], true, 2, (some [.int .u32 0, .int .i64 0]), (some [.i .u32, .i .i64])⟩ where
  ptr := fun h => by cases h
  ks := fun l h => by cases h; exact ⟨by kernel_rfl, by kernel_rfl⟩
  agg := by kernel_rfl
  sz := by kernel_rfl
  ze := fun z h => by cases h; exact ⟨by kernel_rfl, by kernel_rfl⟩
  int := fun k h => by cases h
  str := fun h => by cases h
  bool := fun h => by cases h
  sl := fun e s b z h => by cases h
  st := fun pl h => by cases h; kernel_rfl
  ar := fun n s e h => by cases h
set_option maxRecDepth 100000 in
theorem ti_30 : TIok Try.prog 30 ⟨.sl 26 2 16 [.int .u32 0, .int .i64 0], false, 1, (some [.slice none 0 0]), none⟩ where
  ptr := fun h => by cases h
  ks := fun l h => by cases h
  agg := by kernel_rfl
  sz := by kernel_rfl
  ze := fun z h => by cases h; exact ⟨by kernel_rfl, by kernel_rfl⟩
  int := fun k h => by cases h
  str := fun h => by cases h
  bool := fun h => by cases h
  sl := fun e s b z h => by cases h; exact ⟨by kernel_rfl, by kernel_rfl, by kernel_rfl, by decide, by kernel_rfl⟩
  st := fun pl h => by cases h
  ar := fun n s e h => by cases h
set_option maxRecDepth 100000 in
theorem ti_33 : TIok Try.prog 33 ⟨.sl 5 1 1 [.int .u8 0], false, 1, (some [.slice none 0 0]), none⟩ where
  ptr := fun h => by cases h
  ks := fun l h => by cases h
  agg := by kernel_rfl
  sz := by kernel_rfl
  ze := fun z h => by cases h; exact ⟨by kernel_rfl, by kernel_rfl⟩
  int := fun k h => by cases h
  str := fun h => by cases h
  bool := fun h => by cases h
  sl := fun e s b z h => by cases h; exact ⟨by kernel_rfl, by kernel_rfl, by kernel_rfl, by decide, by kernel_rfl⟩
  st := fun pl h => by cases h
  ar := fun n s e h => by cases h
set_option maxRecDepth 100000 in
theorem ti_34 : TIok Try.prog 34 ⟨.int .i64, false, 1, (some [.int .i64 0]), none⟩ where
  ptr := fun h => by cases h
  ks := fun l h => by cases h
  agg := by kernel_rfl
  sz := by kernel_rfl
  ze := fun z h => by cases h; exact ⟨by kernel_rfl, by kernel_rfl⟩
  int := fun k h => by cases h; kernel_rfl
  str := fun h => by cases h
  bool := fun h => by cases h
  sl := fun e s b z h => by cases h
  st := fun pl h => by cases h
  ar := fun n s e h => by cases h
set_option maxRecDepth 100000 in
theorem ti_48 : TIok Try.prog 48 ⟨.st [(0, 1, true), (1, 1, true), (2, 1, true)], true, 3, (some [.int .u32 0, .int .u32 0, .slice none 0 0]), none⟩ where
  ptr := fun h => by cases h
  ks := fun l h => by cases h
  agg := by kernel_rfl
  sz := by kernel_rfl
  ze := fun z h => by cases h; exact ⟨by kernel_rfl, by kernel_rfl⟩
  int := fun k h => by cases h
  str := fun h => by cases h
  bool := fun h => by cases h
  sl := fun e s b z h => by cases h
  st := fun pl h => by cases h; kernel_rfl
  ar := fun n s e h => by cases h
set_option maxRecDepth 100000 in
theorem ti_55 : TIok Try.prog 55 ⟨.sl 3 1 8 [.int .i64 0], false, 1, (some [.slice none 0 0]), none⟩ where
  ptr := fun h => by cases h
  ks := fun l h => by cases h
  agg := by kernel_rfl
  sz := by kernel_rfl
  ze := fun z h => by cases h; exact ⟨by kernel_rfl, by kernel_rfl⟩
  int := fun k h => by cases h
  str := fun h => by cases h
  bool := fun h => by cases h
  sl := fun e s b z h => by cases h; exact ⟨by kernel_rfl, by kernel_rfl, by kernel_rfl, by decide, by kernel_rfl⟩
  st := fun pl h => by cases h
  ar := fun n s e h => by cases h
set_option maxRecDepth 100000 in
theorem ti_56 : TIok Try.prog 56 ⟨.int .u64, false, 1, (some [.int .u64 0]), none⟩ where
  ptr := fun h => by cases h
  ks := fun l h => by cases h
  agg := by kernel_rfl
  sz := by kernel_rfl
  ze := fun z h => by cases h; exact ⟨by kernel_rfl, by kernel_rfl⟩
  int := fun k h => by cases h; kernel_rfl
  str := fun h => by cases h
  bool := fun h => by cases h
  sl := fun e s b z h => by cases h
  st := fun pl h => by cases h
  ar := fun n s e h => by cases h
set_option maxRecDepth 100000 in
theorem ti_58 : TIok Try.prog 58 ⟨.st [(0, 1, true), (1, 1, true), (2, 1, true)], true, 3, (some [.bool false, .int .i64 0, .int .u64 0]), (some [.b, .i .i64, .i .u64])⟩ where
  ptr := fun h => by cases h
  ks := fun l h => by cases h; exact ⟨by kernel_rfl, by kernel_rfl⟩
  agg := by kernel_rfl
  sz := by kernel_rfl
  ze := fun z h => by cases h; exact ⟨by kernel_rfl, by kernel_rfl⟩
  int := fun k h => by cases h
  str := fun h => by cases h
  bool := fun h => by cases h
  sl := fun e s b z h => by cases h
  st := fun pl h => by cases h; kernel_rfl
  ar := fun n s e h => by cases h
set_option maxRecDepth 100000 in
theorem ti_73 : TIok Try.prog 73 ⟨.st [(0, 1, true), (1, 1, true), (2, 1, true), (3, 1, true), (4, 1, true)], true, 5, (some [.int .i64 0, .int .i64 0, .int .i64 0, .int .i64 0, .slice none 0 0]), none⟩ where
  ptr := fun h => by cases h
  ks := fun l h => by cases h
  agg := by kernel_rfl
  sz := by kernel_rfl
  ze := fun z h => by cases h; exact ⟨by kernel_rfl, by kernel_rfl⟩
  int := fun k h => by cases h
  str := fun h => by cases h
  bool := fun h => by cases h
  sl := fun e s b z h => by cases h
  st := fun pl h => by cases h; kernel_rfl
  ar := fun n s e h => by cases h
set_option maxRecDepth 100000 in
theorem ti_82 : TIok Try.prog 82 ⟨.int .u64, false, 1, (some [.int .u64 0]), none⟩ where
  ptr := fun h => by cases h
  ks := fun l h => by cases h
  agg := by kernel_rfl
  sz := by kernel_rfl
  ze := fun z h => by cases h; exact ⟨by kernel_rfl, by kernel_rfl⟩
  int := fun k h => by cases h; kernel_rfl
  str := fun h => by cases h
  bool := fun h => by cases h
  sl := fun e s b z h => by cases h
  st := fun pl h => by cases h
  ar := fun n s e h => by cases h
set_option maxRecDepth 100000 in
theorem ti_84 : TIok Try.prog 84 ⟨.ar 2 2 26, true, 4, (some [.int .u32 0, .int .i64 0, .int .u32 0, .int .i64 0]), none⟩ where
  ptr := fun h => by cases h
  ks := fun l h => by cases h
  agg := by kernel_rfl
  sz := by kernel_rfl
  ze := fun z h => by cases h; exact ⟨by kernel_rfl, by kernel_rfl⟩
  int := fun k h => by cases h
  str := fun h => by cases h
  bool := fun h => by cases h
  sl := fun e s b z h => by cases h
  st := fun pl h => by cases h
  ar := fun n s e h => by cases h; exact ⟨by kernel_rfl, by kernel_rfl, by kernel_rfl⟩
set_option maxRecDepth 100000 in
theorem ti_86 : TIok Try.prog 86 ⟨.ptr, false, 1, (some [.pointer none]), none⟩ where
  ptr := fun h => ⟨88, by kernel_rfl⟩
  ks := fun l h => by cases h
  agg := by kernel_rfl
  sz := by kernel_rfl
  ze := fun z h => by cases h; exact ⟨by kernel_rfl, by kernel_rfl⟩
  int := fun k h => by cases h
  str := fun h => by cases h
  bool := fun h => by cases h
  sl := fun e s b z h => by cases h
  st := fun pl h => by cases h
  ar := fun n s e h => by cases h
set_option maxRecDepth 100000 in
theorem ti_88 : TIok Try.prog 88 ⟨.st [(0, 1, true), (1, 1, true)], true, 2, (some [.pointer none, .slice none 0 0]), none⟩ where
  ptr := fun h => by cases h
  ks := fun l h => by cases h
  agg := by kernel_rfl
  sz := by kernel_rfl
  ze := fun z h => by cases h; exact ⟨by kernel_rfl, by kernel_rfl⟩
  int := fun k h => by cases h
  str := fun h => by cases h
  bool := fun h => by cases h
  sl := fun e s b z h => by cases h
  st := fun pl h => by cases h; kernel_rfl
  ar := fun n s e h => by cases h
set_option maxRecDepth 100000 in
theorem ti_96 : TIok Try.prog 96 ⟨.int .u16, false, 1, (some [.int .u16 0]), none⟩ where
  ptr := fun h => by cases h
  ks := fun l h => by cases h
  agg := by kernel_rfl
  sz := by kernel_rfl
  ze := fun z h => by cases h; exact ⟨by kernel_rfl, by kernel_rfl⟩
  int := fun k h => by cases h; kernel_rfl
  str := fun h => by cases h
  bool := fun h => by cases h
  sl := fun e s b z h => by cases h
  st := fun pl h => by cases h
  ar := fun n s e h => by cases h
set_option maxRecDepth 100000 in
theorem ti_101 : TIok Try.prog 101 ⟨.sl 33 1 24 [.slice none 0 0], false, 1, (some [.slice none 0 0]), none⟩ where
  ptr := fun h => by cases h
  ks := fun l h => by cases h
  agg := by kernel_rfl
  sz := by kernel_rfl
  ze := fun z h => by cases h; exact ⟨by kernel_rfl, by kernel_rfl⟩
  int := fun k h => by cases h
  str := fun h => by cases h
  bool := fun h => by cases h
  sl := fun e s b z h => by cases h; exact ⟨by kernel_rfl, by kernel_rfl, by kernel_rfl, by decide, by kernel_rfl⟩
  st := fun pl h => by cases h
  ar := fun n s e h => by cases h
set_option maxRecDepth 100000 in
theorem ti_103 : TIok Try.prog 103 ⟨.ar 8 1 24, true, 8, (some [.int .u32 0, .int .u32 0, .int .u32 0, .int .u32 0, .int .u32 0, .int .u32 0, .int .u32 0, .int .u32 0]), none⟩ where
  ptr := fun h => by cases h
  ks := fun l h => by cases h
  agg := by kernel_rfl
  sz := by kernel_rfl
  ze := fun z h => by cases h; exact ⟨by kernel_rfl, by kernel_rfl⟩
  int := fun k h => by cases h
  str := fun h => by cases h
  bool := fun h => by cases h
  sl := fun e s b z h => by cases h
  st := fun pl h => by cases h
  ar := fun n s e h => by cases h; exact ⟨by kernel_rfl, by kernel_rfl, by kernel_rfl⟩
set_option maxRecDepth 100000 in
theorem ti_107 : TIok Try.prog 107 ⟨.st [(0, 1, true), (1, 1, true), (2, 1, true), (3, 1, true), (4, 1, true)], true, 5, (some [.int .i64 0, .int .i64 0, .bool false, .bool false, .bool false]), (some [.i .i64, .i .i64, .b, .b, .b])⟩ where
  ptr := fun h => by cases h
  ks := fun l h => by cases h; exact ⟨by kernel_rfl, by kernel_rfl⟩
  agg := by kernel_rfl
  sz := by kernel_rfl
  ze := fun z h => by cases h; exact ⟨by kernel_rfl, by kernel_rfl⟩
  int := fun k h => by cases h
  str := fun h => by cases h
  bool := fun h => by cases h
  sl := fun e s b z h => by cases h
  st := fun pl h => by cases h; kernel_rfl
  ar := fun n s e h => by cases h
set_option maxRecDepth 100000 in
theorem ti_111 : TIok Try.prog 111 ⟨.ptr, false, 1, (some [.pointer none]), none⟩ where
  ptr := fun h => ⟨113, by kernel_rfl⟩
  ks := fun l h => by cases h
  agg := by kernel_rfl
  sz := by kernel_rfl
  ze := fun z h => by cases h; exact ⟨by kernel_rfl, by kernel_rfl⟩
  int := fun k h => by cases h
  str := fun h => by cases h
  bool := fun h => by cases h
  sl := fun e s b z h => by cases h
  st := fun pl h => by cases h
  ar := fun n s e h => by cases h
set_option maxRecDepth 100000 in
theorem ti_113 : TIok Try.prog 113 ⟨.st [(0, 1, true), (1, 1, true)], true, 2, (some [.slice none 0 0, .bool false]), none⟩ where
  ptr := fun h => by cases h
  ks := fun l h => by cases h
  agg := by kernel_rfl
  sz := by kernel_rfl
  ze := fun z h => by cases h; exact ⟨by kernel_rfl, by kernel_rfl⟩
  int := fun k h => by cases h
  str := fun h => by cases h
  bool := fun h => by cases h
  sl := fun e s b z h => by cases h
  st := fun pl h => by cases h; kernel_rfl
  ar := fun n s e h => by cases h
set_option maxRecDepth 100000 in
theorem ti_115 : TIok Try.prog 115 ⟨.ptr, false, 1, (some [.pointer none]), none⟩ where
  ptr := fun h => ⟨5, by kernel_rfl⟩
  ks := fun l h => by cases h
  agg := by kernel_rfl
  sz := by kernel_rfl
  ze := fun z h => by cases h; exact ⟨by kernel_rfl, by kernel_rfl⟩
  int := fun k h => by cases h
  str := fun h => by cases h
  bool := fun h => by cases h
  sl := fun e s b z h => by cases h
  st := fun pl h => by cases h
  ar := fun n s e h => by cases h
set_option maxRecDepth 100000 in
theorem ti_116 : TIok Try.prog 116 ⟨.ar 64 1 24, true, 64, (some [.int .u32 0, .int .u32 0, .int .u32 0, .int .u32 0, .int .u32 0, .int .u32 0, .int .u32 0, .int .u32 0, .int .u32 0, .int .u32 0, .int .u32 0, .int .u32 0, .int .u32 0, .int .u32 0, .int .u32 0, .int .u32 0, .int .u32 0, .int .u32 0, .int .u32 0, .int .u32 0, .int .u32 0, .int .u32 0, .int .u32 0, .int .u32 0, .int .u32 0, .int .u32 0, .int .u32 0, .int .u32 0, .int .u32 0, .int .u32 0, .int .u32 0, .int .u32 0, .int .u32 0, .int .u32 0, .int .u32 0, .int .u32 0, .int .u32 0, .int .u32 0, .int .u32 0, .int .u32 0, .int .u32 0, .int .u32 0, .int .u32 0, .int .u32 0, .int .u32 0, .int .u32 0, .int .u32 0, .int .u32 0, .int .u32 0, .int .u32 0, .int .u32 0, .int .u32 0, .int .u32 0, .int .u32 0, .int .u32 0, .int .u32 0, .int .u32 0, .int .u32 0, .int .u32 0, .int .u32 0, .int .u32 0, .int .u32 0, .int .u32 0, .int .u32 0]), none⟩ where
  ptr := fun h => by cases h
  ks := fun l h => by cases h
  agg := by kernel_rfl
  sz := by kernel_rfl
  ze := fun z h => by cases h; exact ⟨by kernel_rfl, by kernel_rfl⟩
  int := fun k h => by cases h
  str := fun h => by cases h
  bool := fun h => by cases h
  sl := fun e s b z h => by cases h
  st := fun pl h => by cases h
  ar := fun n s e h => by cases h; exact ⟨by kernel_rfl, by kernel_rfl, by kernel_rfl⟩
set_option maxRecDepth 100000 in
theorem ti_120 : TIok Try.prog 120 ⟨.other, false, 1, (some [.pointer none]), none⟩ where
  ptr := fun h => by cases h
  ks := fun l h => by cases h
  agg := by kernel_rfl
  sz := by kernel_rfl
  ze := fun z h => by cases h; exact ⟨by kernel_rfl, by kernel_rfl⟩
  int := fun k h => by cases h
  str := fun h => by cases h
  bool := fun h => by cases h
  sl := fun e s b z h => by cases h
  st := fun pl h => by cases h
  ar := fun n s e h => by cases h
def tabT : TT := (.node 56 ⟨.int .u64, false, 1, (some [.int .u64 0]), none⟩ (.node 23 ⟨.st [(0, 1, true), (1, 1, true), (2, 1, true), (3, 1, true)], true, 4, (some [.int .i64 0, .int .i64 0, .int .i64 0, .string ⟨#[]⟩]), (some [.i .i64, .i .i64, .i .i64, .s])⟩ (.node 5 ⟨.int .u8, false, 1, (some [.int .u8 0]), none⟩ (.node 3 ⟨.int .i64, false, 1, (some [.int .i64 0]), none⟩ (.node 2 ⟨.int .i64, false, 1, (some [.int .i64 0]), none⟩ .leaf .leaf) (.node 4 ⟨.bool, false, 1, (some [.bool false]), none⟩ .leaf .leaf)) (.node 11 ⟨.str, false, 1, (some [.string ⟨#[]⟩]), none⟩ (.node 9 ⟨.str, false, 1, (some [.string ⟨#[]⟩]), none⟩ .leaf .leaf) (.node 12 ⟨.int .u64, false, 1, (some [.int .u64 0]), none⟩ .leaf .leaf))) (.node 33 ⟨.sl 5 1 1 [.int .u8 0], false, 1, (some [.slice none 0 0]), none⟩ (.node 26 ⟨.st [(0, 1, true), (1, 1, true)], true, 2, (some [.int .u32 0, .int .i64 0]), (some [.i .u32, .i .i64])⟩ (.node 24 ⟨.int .u32, false, 1, (some [.int .u32 0]), none⟩ .leaf .leaf) (.node 30 ⟨.sl 26 2 16 [.int .u32 0, .int .i64 0], false, 1, (some [.slice none 0 0]), none⟩ .leaf .leaf)) (.node 48 ⟨.st [(0, 1, true), (1, 1, true), (2, 1, true)], true, 3, (some [.int .u32 0, .int .u32 0, .slice none 0 0]), none⟩ (.node 34 ⟨.int .i64, false, 1, (some [.int .i64 0]), none⟩ .leaf .leaf) (.node 55 ⟨.sl 3 1 8 [.int .i64 0], false, 1, (some [.slice none 0 0]), none⟩ .leaf .leaf)))) (.node 101 ⟨.sl 33 1 24 [.slice none 0 0], false, 1, (some [.slice none 0 0]), none⟩ (.node 84 ⟨.ar 2 2 26, true, 4, (some [.int .u32 0, .int .i64 0, .int .u32 0, .int .i64 0]), none⟩ (.node 73 ⟨.st [(0, 1, true), (1, 1, true), (2, 1, true), (3, 1, true), (4, 1, true)], true, 5, (some [.int .i64 0, .int .i64 0, .int .i64 0, .int .i64 0, .slice none 0 0]), none⟩ (.node 58 ⟨.st [(0, 1, true), (1, 1, true), (2, 1, true)], true, 3, (some [.bool false, .int .i64 0, .int .u64 0]), (some [.b, .i .i64, .i .u64])⟩ .leaf .leaf) (.node 82 ⟨.int .u64, false, 1, (some [.int .u64 0]), none⟩ .leaf .leaf)) (.node 88 ⟨.st [(0, 1, true), (1, 1, true)], true, 2, (some [.pointer none, .slice none 0 0]), none⟩ (.node 86 ⟨.ptr, false, 1, (some [.pointer none]), none⟩ .leaf .leaf) (.node 96 ⟨.int .u16, false, 1, (some [.int .u16 0]), none⟩ .leaf .leaf))) (.node 113 ⟨.st [(0, 1, true), (1, 1, true)], true, 2, (some [.slice none 0 0, .bool false]), none⟩ (.node 107 ⟨.st [(0, 1, true), (1, 1, true), (2, 1, true), (3, 1, true), (4, 1, true)], true, 5, (some [.int .i64 0, .int .i64 0, .bool false, .bool false, .bool false]), (some [.i .i64, .i .i64, .b, .b, .b])⟩ (.node 103 ⟨.ar 8 1 24, true, 8, (some [.int .u32 0, .int .u32 0, .int .u32 0, .int .u32 0, .int .u32 0, .int .u32 0, .int .u32 0, .int .u32 0]), none⟩ .leaf .leaf) (.node 111 ⟨.ptr, false, 1, (some [.pointer none]), none⟩ .leaf .leaf)) (.node 116 ⟨.ar 64 1 24, true, 64, (some [.int .u32 0, .int .u32 0, .int .u32 0, .int .u32 0, .int .u32 0, .int .u32 0, .int .u32 0, .int .u32 0, .int .u32 0, .int .u32 0, .int .u32 0, .int .u32 0, .int .u32 0, .int .u32 0, .int .u32 0, .int .u32 0, .int .u32 0, .int .u32 0, .int .u32 0, .int .u32 0, .int .u32 0, .int .u32 0, .int .u32 0, .int .u32 0, .int .u32 0, .int .u32 0, .int .u32 0, .int .u32 0, .int .u32 0, .int .u32 0, .int .u32 0, .int .u32 0, .int .u32 0, .int .u32 0, .int .u32 0, .int .u32 0, .int .u32 0, .int .u32 0, .int .u32 0, .int .u32 0, .int .u32 0, .int .u32 0, .int .u32 0, .int .u32 0, .int .u32 0, .int .u32 0, .int .u32 0, .int .u32 0, .int .u32 0, .int .u32 0, .int .u32 0, .int .u32 0, .int .u32 0, .int .u32 0, .int .u32 0, .int .u32 0, .int .u32 0, .int .u32 0, .int .u32 0, .int .u32 0, .int .u32 0, .int .u32 0, .int .u32 0, .int .u32 0]), none⟩ (.node 115 ⟨.ptr, false, 1, (some [.pointer none]), none⟩ .leaf .leaf) (.node 120 ⟨.other, false, 1, (some [.pointer none]), none⟩ .leaf .leaf)))))
theorem tab_ok : tabT.ok Try.prog := ⟨ti_56, ⟨ti_23, ⟨ti_5, ⟨ti_3, ⟨ti_2, trivial, trivial⟩, ⟨ti_4, trivial, trivial⟩⟩, ⟨ti_11, ⟨ti_9, trivial, trivial⟩, ⟨ti_12, trivial, trivial⟩⟩⟩, ⟨ti_33, ⟨ti_26, ⟨ti_24, trivial, trivial⟩, ⟨ti_30, trivial, trivial⟩⟩, ⟨ti_48, ⟨ti_34, trivial, trivial⟩, ⟨ti_55, trivial, trivial⟩⟩⟩⟩, ⟨ti_101, ⟨ti_84, ⟨ti_73, ⟨ti_58, trivial, trivial⟩, ⟨ti_82, trivial, trivial⟩⟩, ⟨ti_88, ⟨ti_86, trivial, trivial⟩, ⟨ti_96, trivial, trivial⟩⟩⟩, ⟨ti_113, ⟨ti_107, ⟨ti_103, trivial, trivial⟩, ⟨ti_111, trivial, trivial⟩⟩, ⟨ti_116, ⟨ti_115, trivial, trivial⟩, ⟨ti_120, trivial, trivial⟩⟩⟩⟩⟩
end Go.Proofs.Ytnopdnclefopbaa
