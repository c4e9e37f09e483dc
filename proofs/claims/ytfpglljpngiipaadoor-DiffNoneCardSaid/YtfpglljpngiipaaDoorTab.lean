/- What the types of this translation are: the table that the walk by computation reads. Written by a program (ag.py). -/
import Derived.Test.YtfpglljpngiipaaDoorProg
import Derived.Test.YtfpglljpngiipaaDoorFD
namespace Go.Proofs.YtfpglljpngiipaaDoor
set_option linter.unusedVariables false
set_option maxRecDepth 100000 in
theorem ti_2 : TIok Tryd.prog 2 ⟨.int .i64, false, 1, (some [.int .i64 0]), none⟩ where
  ptr := fun h => by cases h
  ks := fun l h => by cases h
  agg := by kernel_rfl
  sz := by kernel_rfl
  ze := fun z h => by cases h; exact ⟨by kernel_rfl, by kernel_rfl⟩
  int := fun k h => by cases h; kernel_rfl
  str := fun h => by cases h
  bool := fun h => by cases h
  sl := fun e s b z h => by cases h
  st := fun pl h => by cases h
  ar := fun n s e h => by cases h
  mp := fun K V h => by cases h
  fl := fun pl h => by cases h
set_option maxRecDepth 100000 in
theorem ti_3 : TIok Tryd.prog 3 ⟨.int .i64, false, 1, (some [.int .i64 0]), none⟩ where
  ptr := fun h => by cases h
  ks := fun l h => by cases h
  agg := by kernel_rfl
  sz := by kernel_rfl
  ze := fun z h => by cases h; exact ⟨by kernel_rfl, by kernel_rfl⟩
  int := fun k h => by cases h; kernel_rfl
  str := fun h => by cases h
  bool := fun h => by cases h
  sl := fun e s b z h => by cases h
  st := fun pl h => by cases h
  ar := fun n s e h => by cases h
  mp := fun K V h => by cases h
  fl := fun pl h => by cases h
set_option maxRecDepth 100000 in
theorem ti_4 : TIok Tryd.prog 4 ⟨.bool, false, 1, (some [.bool false]), none⟩ where
  ptr := fun h => by cases h
  ks := fun l h => by cases h
  agg := by kernel_rfl
  sz := by kernel_rfl
  ze := fun z h => by cases h; exact ⟨by kernel_rfl, by kernel_rfl⟩
  int := fun k h => by cases h
  str := fun h => by cases h
  bool := fun h => by exact by kernel_rfl
  sl := fun e s b z h => by cases h
  st := fun pl h => by cases h
  ar := fun n s e h => by cases h
  mp := fun K V h => by cases h
  fl := fun pl h => by cases h
set_option maxRecDepth 100000 in
theorem ti_5 : TIok Tryd.prog 5 ⟨.int .u8, false, 1, (some [.int .u8 0]), none⟩ where
  ptr := fun h => by cases h
  ks := fun l h => by cases h
  agg := by kernel_rfl
  sz := by kernel_rfl
  ze := fun z h => by cases h; exact ⟨by kernel_rfl, by kernel_rfl⟩
  int := fun k h => by cases h; kernel_rfl
  str := fun h => by cases h
  bool := fun h => by cases h
  sl := fun e s b z h => by cases h
  st := fun pl h => by cases h
  ar := fun n s e h => by cases h
  mp := fun K V h => by cases h
  fl := fun pl h => by cases h
set_option maxRecDepth 100000 in
theorem ti_6 : TIok Tryd.prog 6 ⟨.int .u8, false, 1, (some [.int .u8 0]), none⟩ where
  ptr := fun h => by cases h
  ks := fun l h => by cases h
  agg := by kernel_rfl
  sz := by kernel_rfl
  ze := fun z h => by cases h; exact ⟨by kernel_rfl, by kernel_rfl⟩
  int := fun k h => by cases h; kernel_rfl
  str := fun h => by cases h
  bool := fun h => by cases h
  sl := fun e s b z h => by cases h
  st := fun pl h => by cases h
  ar := fun n s e h => by cases h
  mp := fun K V h => by cases h
  fl := fun pl h => by cases h
set_option maxRecDepth 100000 in
theorem ti_7 : TIok Tryd.prog 7 ⟨.st [(0, 1, true), (1, 1, true), (2, 1, true), (3, 1, true)], true, 4, (some [.int .i64 0, .int .i64 0, .bool false, .int .u8 0]), (some [.i .i64, .i .i64, .b, .i .u8])⟩ where
  ptr := fun h => by cases h
  ks := fun l h => by cases h; exact ⟨by kernel_rfl, by kernel_rfl⟩
  agg := by kernel_rfl
  sz := by kernel_rfl
  ze := fun z h => by cases h; exact ⟨by kernel_rfl, by kernel_rfl⟩
  int := fun k h => by cases h
  str := fun h => by cases h
  bool := fun h => by cases h
  sl := fun e s b z h => by cases h
  st := fun pl h => by cases h; kernel_rfl
  ar := fun n s e h => by cases h
  mp := fun K V h => by cases h
  fl := fun pl h => by cases h; kernel_rfl
set_option maxRecDepth 100000 in
theorem ti_9 : TIok Tryd.prog 9 ⟨.str, false, 1, (some [.string ⟨#[]⟩]), none⟩ where
  ptr := fun h => by cases h
  ks := fun l h => by cases h
  agg := by kernel_rfl
  sz := by kernel_rfl
  ze := fun z h => by cases h; exact ⟨by kernel_rfl, by kernel_rfl⟩
  int := fun k h => by cases h
  str := fun h => by exact by kernel_rfl
  bool := fun h => by cases h
  sl := fun e s b z h => by cases h
  st := fun pl h => by cases h
  ar := fun n s e h => by cases h
  mp := fun K V h => by cases h
  fl := fun pl h => by cases h
set_option maxRecDepth 100000 in
theorem ti_11 : TIok Tryd.prog 11 ⟨.str, false, 1, (some [.string ⟨#[]⟩]), none⟩ where
  ptr := fun h => by cases h
  ks := fun l h => by cases h
  agg := by kernel_rfl
  sz := by kernel_rfl
  ze := fun z h => by cases h; exact ⟨by kernel_rfl, by kernel_rfl⟩
  int := fun k h => by cases h
  str := fun h => by exact by kernel_rfl
  bool := fun h => by cases h
  sl := fun e s b z h => by cases h
  st := fun pl h => by cases h
  ar := fun n s e h => by cases h
  mp := fun K V h => by cases h
  fl := fun pl h => by cases h
set_option maxRecDepth 100000 in
theorem ti_21 : TIok Tryd.prog 21 ⟨.int .i32, false, 1, (some [.int .i32 0]), none⟩ where
  ptr := fun h => by cases h
  ks := fun l h => by cases h
  agg := by kernel_rfl
  sz := by kernel_rfl
  ze := fun z h => by cases h; exact ⟨by kernel_rfl, by kernel_rfl⟩
  int := fun k h => by cases h; kernel_rfl
  str := fun h => by cases h
  bool := fun h => by cases h
  sl := fun e s b z h => by cases h
  st := fun pl h => by cases h
  ar := fun n s e h => by cases h
  mp := fun K V h => by cases h
  fl := fun pl h => by cases h
set_option maxRecDepth 100000 in
theorem ti_22 : TIok Tryd.prog 22 ⟨.int .u64, false, 1, (some [.int .u64 0]), none⟩ where
  ptr := fun h => by cases h
  ks := fun l h => by cases h
  agg := by kernel_rfl
  sz := by kernel_rfl
  ze := fun z h => by cases h; exact ⟨by kernel_rfl, by kernel_rfl⟩
  int := fun k h => by cases h; kernel_rfl
  str := fun h => by cases h
  bool := fun h => by cases h
  sl := fun e s b z h => by cases h
  st := fun pl h => by cases h
  ar := fun n s e h => by cases h
  mp := fun K V h => by cases h
  fl := fun pl h => by cases h
set_option maxRecDepth 100000 in
theorem ti_24 : TIok Tryd.prog 24 ⟨.st [(0, 1, true), (1, 1, true), (2, 1, true)], true, 3, (some [.bool false, .int .i64 0, .int .u64 0]), (some [.b, .i .i64, .i .u64])⟩ where
  ptr := fun h => by cases h
  ks := fun l h => by cases h; exact ⟨by kernel_rfl, by kernel_rfl⟩
  agg := by kernel_rfl
  sz := by kernel_rfl
  ze := fun z h => by cases h; exact ⟨by kernel_rfl, by kernel_rfl⟩
  int := fun k h => by cases h
  str := fun h => by cases h
  bool := fun h => by cases h
  sl := fun e s b z h => by cases h
  st := fun pl h => by cases h; kernel_rfl
  ar := fun n s e h => by cases h
  mp := fun K V h => by cases h
  fl := fun pl h => by cases h; kernel_rfl
set_option maxRecDepth 100000 in
theorem ti_26 : TIok Tryd.prog 26 ⟨.st [(0, 1, true), (1, 1, true), (2, 1, true), (3, 1, true), (4, 1, true), (5, 1, true), (6, 1, true), (7, 3, false), (10, 1, true)], true, 11, (some [.bool false, .string ⟨#[]⟩, .string ⟨#[]⟩, .int .i64 0, .int .i64 0, .int .i64 0, .int .i64 0, .bool false, .int .i64 0, .int .u64 0, .bool false]), (some [.b, .s, .s, .i .i64, .i .i64, .i .i64, .i .i64, .b, .i .i64, .i .u64, .b])⟩ where
  ptr := fun h => by cases h
  ks := fun l h => by cases h; exact ⟨by kernel_rfl, by kernel_rfl⟩
  agg := by kernel_rfl
  sz := by kernel_rfl
  ze := fun z h => by cases h; exact ⟨by kernel_rfl, by kernel_rfl⟩
  int := fun k h => by cases h
  str := fun h => by cases h
  bool := fun h => by cases h
  sl := fun e s b z h => by cases h
  st := fun pl h => by cases h; kernel_rfl
  ar := fun n s e h => by cases h
  mp := fun K V h => by cases h
  fl := fun pl h => by cases h; kernel_rfl
set_option maxRecDepth 100000 in
theorem ti_31 : TIok Tryd.prog 31 ⟨.st [(0, 11, false), (11, 11, false), (22, 11, false)], true, 33, (some [.bool false, .string ⟨#[]⟩, .string ⟨#[]⟩, .int .i64 0, .int .i64 0, .int .i64 0, .int .i64 0, .bool false, .int .i64 0, .int .u64 0, .bool false, .bool false, .string ⟨#[]⟩, .string ⟨#[]⟩, .int .i64 0, .int .i64 0, .int .i64 0, .int .i64 0, .bool false, .int .i64 0, .int .u64 0, .bool false, .bool false, .string ⟨#[]⟩, .string ⟨#[]⟩, .int .i64 0, .int .i64 0, .int .i64 0, .int .i64 0, .bool false, .int .i64 0, .int .u64 0, .bool false]), (some [.b, .s, .s, .i .i64, .i .i64, .i .i64, .i .i64, .b, .i .i64, .i .u64, .b, .b, .s, .s, .i .i64, .i .i64, .i .i64, .i .i64, .b, .i .i64, .i .u64, .b, .b, .s, .s, .i .i64, .i .i64, .i .i64, .i .i64, .b, .i .i64, .i .u64, .b])⟩ where
  ptr := fun h => by cases h
  ks := fun l h => by cases h; exact ⟨by kernel_rfl, by kernel_rfl⟩
  agg := by kernel_rfl
  sz := by kernel_rfl
  ze := fun z h => by cases h; exact ⟨by kernel_rfl, by kernel_rfl⟩
  int := fun k h => by cases h
  str := fun h => by cases h
  bool := fun h => by cases h
  sl := fun e s b z h => by cases h
  st := fun pl h => by cases h; kernel_rfl
  ar := fun n s e h => by cases h
  mp := fun K V h => by cases h
  fl := fun pl h => by cases h; kernel_rfl
set_option maxRecDepth 100000 in
theorem ti_33 : TIok Tryd.prog 33 ⟨.st [(0, 1, true), (1, 1, true), (2, 1, true), (3, 1, true), (4, 1, true)], true, 5, (some [.bool false, .int .i64 0, .string ⟨#[]⟩, .int .i64 0, .int .i64 0]), (some [.b, .i .i64, .s, .i .i64, .i .i64])⟩ where
  ptr := fun h => by cases h
  ks := fun l h => by cases h; exact ⟨by kernel_rfl, by kernel_rfl⟩
  agg := by kernel_rfl
  sz := by kernel_rfl
  ze := fun z h => by cases h; exact ⟨by kernel_rfl, by kernel_rfl⟩
  int := fun k h => by cases h
  str := fun h => by cases h
  bool := fun h => by cases h
  sl := fun e s b z h => by cases h
  st := fun pl h => by cases h; kernel_rfl
  ar := fun n s e h => by cases h
  mp := fun K V h => by cases h
  fl := fun pl h => by cases h; kernel_rfl
set_option maxRecDepth 100000 in
theorem ti_34 : TIok Tryd.prog 34 ⟨.sl 149 3 32 [.int .u32 0, .int .u32 0, .slice none 0 0], false, 1, (some [.slice none 0 0]), none⟩ where
  ptr := fun h => by cases h
  ks := fun l h => by cases h
  agg := by kernel_rfl
  sz := by kernel_rfl
  ze := fun z h => by cases h; exact ⟨by kernel_rfl, by kernel_rfl⟩
  int := fun k h => by cases h
  str := fun h => by cases h
  bool := fun h => by cases h
  sl := fun e s b z h => by cases h; exact ⟨by kernel_rfl, by kernel_rfl, by kernel_rfl, by decide, by kernel_rfl⟩
  st := fun pl h => by cases h
  ar := fun n s e h => by cases h
  mp := fun K V h => by cases h
  fl := fun pl h => by cases h
set_option maxRecDepth 100000 in
theorem ti_36 : TIok Tryd.prog 36 ⟨.st [(0, 1, true), (1, 1, true), (2, 33, false), (35, 5, false), (40, 1, true)], true, 41, (some [.string ⟨#[]⟩, .string ⟨#[]⟩, .bool false, .string ⟨#[]⟩, .string ⟨#[]⟩, .int .i64 0, .int .i64 0, .int .i64 0, .int .i64 0, .bool false, .int .i64 0, .int .u64 0, .bool false, .bool false, .string ⟨#[]⟩, .string ⟨#[]⟩, .int .i64 0, .int .i64 0, .int .i64 0, .int .i64 0, .bool false, .int .i64 0, .int .u64 0, .bool false, .bool false, .string ⟨#[]⟩, .string ⟨#[]⟩, .int .i64 0, .int .i64 0, .int .i64 0, .int .i64 0, .bool false, .int .i64 0, .int .u64 0, .bool false, .bool false, .int .i64 0, .string ⟨#[]⟩, .int .i64 0, .int .i64 0, .slice none 0 0]), none⟩ where
  ptr := fun h => by cases h
  ks := fun l h => by cases h
  agg := by kernel_rfl
  sz := by kernel_rfl
  ze := fun z h => by cases h; exact ⟨by kernel_rfl, by kernel_rfl⟩
  int := fun k h => by cases h
  str := fun h => by cases h
  bool := fun h => by cases h
  sl := fun e s b z h => by cases h
  st := fun pl h => by cases h; kernel_rfl
  ar := fun n s e h => by cases h
  mp := fun K V h => by cases h
  fl := fun pl h => by cases h; kernel_rfl
set_option maxRecDepth 100000 in
theorem ti_37 : TIok Tryd.prog 37 ⟨.sl 36 41 416 [.string ⟨#[]⟩, .string ⟨#[]⟩, .bool false, .string ⟨#[]⟩, .string ⟨#[]⟩, .int .i64 0, .int .i64 0, .int .i64 0, .int .i64 0, .bool false, .int .i64 0, .int .u64 0, .bool false, .bool false, .string ⟨#[]⟩, .string ⟨#[]⟩, .int .i64 0, .int .i64 0, .int .i64 0, .int .i64 0, .bool false, .int .i64 0, .int .u64 0, .bool false, .bool false, .string ⟨#[]⟩, .string ⟨#[]⟩, .int .i64 0, .int .i64 0, .int .i64 0, .int .i64 0, .bool false, .int .i64 0, .int .u64 0, .bool false, .bool false, .int .i64 0, .string ⟨#[]⟩, .int .i64 0, .int .i64 0, .slice none 0 0], false, 1, (some [.slice none 0 0]), none⟩ where
  ptr := fun h => by cases h
  ks := fun l h => by cases h
  agg := by kernel_rfl
  sz := by kernel_rfl
  ze := fun z h => by cases h; exact ⟨by kernel_rfl, by kernel_rfl⟩
  int := fun k h => by cases h
  str := fun h => by cases h
  bool := fun h => by cases h
  sl := fun e s b z h => by cases h; exact ⟨by kernel_rfl, by kernel_rfl, by kernel_rfl, by decide, by kernel_rfl⟩
  st := fun pl h => by cases h
  ar := fun n s e h => by cases h
  mp := fun K V h => by cases h
  fl := fun pl h => by cases h
set_option maxRecDepth 100000 in
theorem ti_38 : TIok Tryd.prog 38 ⟨.int .i64, false, 1, (some [.int .i64 0]), none⟩ where
  ptr := fun h => by cases h
  ks := fun l h => by cases h
  agg := by kernel_rfl
  sz := by kernel_rfl
  ze := fun z h => by cases h; exact ⟨by kernel_rfl, by kernel_rfl⟩
  int := fun k h => by cases h; kernel_rfl
  str := fun h => by cases h
  bool := fun h => by cases h
  sl := fun e s b z h => by cases h
  st := fun pl h => by cases h
  ar := fun n s e h => by cases h
  mp := fun K V h => by cases h
  fl := fun pl h => by cases h
set_option maxRecDepth 100000 in
theorem ti_45 : TIok Tryd.prog 45 ⟨.sl 94 4 40 [.int .i64 0, .int .i64 0, .int .i64 0, .string ⟨#[]⟩], false, 1, (some [.slice none 0 0]), none⟩ where
  ptr := fun h => by cases h
  ks := fun l h => by cases h
  agg := by kernel_rfl
  sz := by kernel_rfl
  ze := fun z h => by cases h; exact ⟨by kernel_rfl, by kernel_rfl⟩
  int := fun k h => by cases h
  str := fun h => by cases h
  bool := fun h => by cases h
  sl := fun e s b z h => by cases h; exact ⟨by kernel_rfl, by kernel_rfl, by kernel_rfl, by decide, by kernel_rfl⟩
  st := fun pl h => by cases h
  ar := fun n s e h => by cases h
  mp := fun K V h => by cases h
  fl := fun pl h => by cases h
set_option maxRecDepth 100000 in
theorem ti_46 : TIok Tryd.prog 46 ⟨.sl 53 5 48 [.int .i64 0, .string ⟨#[]⟩, .int .i64 0, .int .u32 0, .int .i64 0], false, 1, (some [.slice none 0 0]), none⟩ where
  ptr := fun h => by cases h
  ks := fun l h => by cases h
  agg := by kernel_rfl
  sz := by kernel_rfl
  ze := fun z h => by cases h; exact ⟨by kernel_rfl, by kernel_rfl⟩
  int := fun k h => by cases h
  str := fun h => by cases h
  bool := fun h => by cases h
  sl := fun e s b z h => by cases h; exact ⟨by kernel_rfl, by kernel_rfl, by kernel_rfl, by decide, by kernel_rfl⟩
  st := fun pl h => by cases h
  ar := fun n s e h => by cases h
  mp := fun K V h => by cases h
  fl := fun pl h => by cases h
set_option maxRecDepth 100000 in
theorem ti_48 : TIok Tryd.prog 48 ⟨.sl 9 1 16 [.string ⟨#[]⟩], false, 1, (some [.slice none 0 0]), none⟩ where
  ptr := fun h => by cases h
  ks := fun l h => by cases h
  agg := by kernel_rfl
  sz := by kernel_rfl
  ze := fun z h => by cases h; exact ⟨by kernel_rfl, by kernel_rfl⟩
  int := fun k h => by cases h
  str := fun h => by cases h
  bool := fun h => by cases h
  sl := fun e s b z h => by cases h; exact ⟨by kernel_rfl, by kernel_rfl, by kernel_rfl, by decide, by kernel_rfl⟩
  st := fun pl h => by cases h
  ar := fun n s e h => by cases h
  mp := fun K V h => by cases h
  fl := fun pl h => by cases h
set_option maxRecDepth 100000 in
theorem ti_49 : TIok Tryd.prog 49 ⟨.int .u32, false, 1, (some [.int .u32 0]), none⟩ where
  ptr := fun h => by cases h
  ks := fun l h => by cases h
  agg := by kernel_rfl
  sz := by kernel_rfl
  ze := fun z h => by cases h; exact ⟨by kernel_rfl, by kernel_rfl⟩
  int := fun k h => by cases h; kernel_rfl
  str := fun h => by cases h
  bool := fun h => by cases h
  sl := fun e s b z h => by cases h
  st := fun pl h => by cases h
  ar := fun n s e h => by cases h
  mp := fun K V h => by cases h
  fl := fun pl h => by cases h
set_option maxRecDepth 100000 in
theorem ti_51 : TIok Tryd.prog 51 ⟨.st [(0, 1, true), (1, 1, true)], true, 2, (some [.int .u32 0, .int .i64 0]), (some [.i .u32, .i .i64])⟩ where
  ptr := fun h => by cases h
  ks := fun l h => by cases h; exact ⟨by kernel_rfl, by kernel_rfl⟩
  agg := by kernel_rfl
  sz := by kernel_rfl
  ze := fun z h => by cases h; exact ⟨by kernel_rfl, by kernel_rfl⟩
  int := fun k h => by cases h
  str := fun h => by cases h
  bool := fun h => by cases h
  sl := fun e s b z h => by cases h
  st := fun pl h => by cases h; kernel_rfl
  ar := fun n s e h => by cases h
  mp := fun K V h => by cases h
  fl := fun pl h => by cases h; kernel_rfl
set_option maxRecDepth 100000 in
theorem ti_53 : TIok Tryd.prog 53 ⟨.st [(0, 1, true), (1, 1, true), (2, 1, true), (3, 2, false)], true, 5, (some [.int .i64 0, .string ⟨#[]⟩, .int .i64 0, .int .u32 0, .int .i64 0]), (some [.i .i64, .s, .i .i64, .i .u32, .i .i64])⟩ where
  ptr := fun h => by cases h
  ks := fun l h => by cases h; exact ⟨by kernel_rfl, by kernel_rfl⟩
  agg := by kernel_rfl
  sz := by kernel_rfl
  ze := fun z h => by cases h; exact ⟨by kernel_rfl, by kernel_rfl⟩
  int := fun k h => by cases h
  str := fun h => by cases h
  bool := fun h => by cases h
  sl := fun e s b z h => by cases h
  st := fun pl h => by cases h; kernel_rfl
  ar := fun n s e h => by cases h
  mp := fun K V h => by cases h
  fl := fun pl h => by cases h; kernel_rfl
set_option maxRecDepth 100000 in
theorem ti_55 : TIok Tryd.prog 55 ⟨.st [(0, 1, true), (1, 1, true)], true, 2, (some [.string ⟨#[]⟩, .string ⟨#[]⟩]), (some [.s, .s])⟩ where
  ptr := fun h => by cases h
  ks := fun l h => by cases h; exact ⟨by kernel_rfl, by kernel_rfl⟩
  agg := by kernel_rfl
  sz := by kernel_rfl
  ze := fun z h => by cases h; exact ⟨by kernel_rfl, by kernel_rfl⟩
  int := fun k h => by cases h
  str := fun h => by cases h
  bool := fun h => by cases h
  sl := fun e s b z h => by cases h
  st := fun pl h => by cases h; kernel_rfl
  ar := fun n s e h => by cases h
  mp := fun K V h => by cases h
  fl := fun pl h => by cases h; kernel_rfl
set_option maxRecDepth 100000 in
theorem ti_65 : TIok Tryd.prog 65 ⟨.sl 71 5 80 [.string ⟨#[]⟩, .string ⟨#[]⟩, .string ⟨#[]⟩, .int .i64 0, .slice none 0 0], false, 1, (some [.slice none 0 0]), none⟩ where
  ptr := fun h => by cases h
  ks := fun l h => by cases h
  agg := by kernel_rfl
  sz := by kernel_rfl
  ze := fun z h => by cases h; exact ⟨by kernel_rfl, by kernel_rfl⟩
  int := fun k h => by cases h
  str := fun h => by cases h
  bool := fun h => by cases h
  sl := fun e s b z h => by cases h; exact ⟨by kernel_rfl, by kernel_rfl, by kernel_rfl, by decide, by kernel_rfl⟩
  st := fun pl h => by cases h
  ar := fun n s e h => by cases h
  mp := fun K V h => by cases h
  fl := fun pl h => by cases h
set_option maxRecDepth 100000 in
theorem ti_67 : TIok Tryd.prog 67 ⟨.st [(0, 1, true), (1, 1, true), (2, 1, true)], true, 3, (some [.string ⟨#[]⟩, .int .i64 0, .slice none 0 0]), none⟩ where
  ptr := fun h => by cases h
  ks := fun l h => by cases h
  agg := by kernel_rfl
  sz := by kernel_rfl
  ze := fun z h => by cases h; exact ⟨by kernel_rfl, by kernel_rfl⟩
  int := fun k h => by cases h
  str := fun h => by cases h
  bool := fun h => by cases h
  sl := fun e s b z h => by cases h
  st := fun pl h => by cases h; kernel_rfl
  ar := fun n s e h => by cases h
  mp := fun K V h => by cases h
  fl := fun pl h => by cases h; kernel_rfl
set_option maxRecDepth 100000 in
theorem ti_69 : TIok Tryd.prog 69 ⟨.sl 51 2 16 [.int .u32 0, .int .i64 0], false, 1, (some [.slice none 0 0]), none⟩ where
  ptr := fun h => by cases h
  ks := fun l h => by cases h
  agg := by kernel_rfl
  sz := by kernel_rfl
  ze := fun z h => by cases h; exact ⟨by kernel_rfl, by kernel_rfl⟩
  int := fun k h => by cases h
  str := fun h => by cases h
  bool := fun h => by cases h
  sl := fun e s b z h => by cases h; exact ⟨by kernel_rfl, by kernel_rfl, by kernel_rfl, by decide, by kernel_rfl⟩
  st := fun pl h => by cases h
  ar := fun n s e h => by cases h
  mp := fun K V h => by cases h
  fl := fun pl h => by cases h
set_option maxRecDepth 100000 in
theorem ti_71 : TIok Tryd.prog 71 ⟨.st [(0, 1, true), (1, 1, true), (2, 1, true), (3, 1, true), (4, 1, true)], true, 5, (some [.string ⟨#[]⟩, .string ⟨#[]⟩, .string ⟨#[]⟩, .int .i64 0, .slice none 0 0]), none⟩ where
  ptr := fun h => by cases h
  ks := fun l h => by cases h
  agg := by kernel_rfl
  sz := by kernel_rfl
  ze := fun z h => by cases h; exact ⟨by kernel_rfl, by kernel_rfl⟩
  int := fun k h => by cases h
  str := fun h => by cases h
  bool := fun h => by cases h
  sl := fun e s b z h => by cases h
  st := fun pl h => by cases h; kernel_rfl
  ar := fun n s e h => by cases h
  mp := fun K V h => by cases h
  fl := fun pl h => by cases h; kernel_rfl
set_option maxRecDepth 100000 in
theorem ti_87 : TIok Tryd.prog 87 ⟨.sl 3 1 8 [.int .i64 0], false, 1, (some [.slice none 0 0]), none⟩ where
  ptr := fun h => by cases h
  ks := fun l h => by cases h
  agg := by kernel_rfl
  sz := by kernel_rfl
  ze := fun z h => by cases h; exact ⟨by kernel_rfl, by kernel_rfl⟩
  int := fun k h => by cases h
  str := fun h => by cases h
  bool := fun h => by cases h
  sl := fun e s b z h => by cases h; exact ⟨by kernel_rfl, by kernel_rfl, by kernel_rfl, by decide, by kernel_rfl⟩
  st := fun pl h => by cases h
  ar := fun n s e h => by cases h
  mp := fun K V h => by cases h
  fl := fun pl h => by cases h
set_option maxRecDepth 100000 in
theorem ti_89 : TIok Tryd.prog 89 ⟨.ar 5 1 3, true, 5, (some [.int .i64 0, .int .i64 0, .int .i64 0, .int .i64 0, .int .i64 0]), none⟩ where
  ptr := fun h => by cases h
  ks := fun l h => by cases h
  agg := by kernel_rfl
  sz := by kernel_rfl
  ze := fun z h => by cases h; exact ⟨by kernel_rfl, by kernel_rfl⟩
  int := fun k h => by cases h
  str := fun h => by cases h
  bool := fun h => by cases h
  sl := fun e s b z h => by cases h
  st := fun pl h => by cases h
  ar := fun n s e h => by cases h; exact ⟨by kernel_rfl, by kernel_rfl, by kernel_rfl⟩
  mp := fun K V h => by cases h
  fl := fun pl h => by cases h
set_option maxRecDepth 100000 in
theorem ti_94 : TIok Tryd.prog 94 ⟨.st [(0, 1, true), (1, 1, true), (2, 1, true), (3, 1, true)], true, 4, (some [.int .i64 0, .int .i64 0, .int .i64 0, .string ⟨#[]⟩]), (some [.i .i64, .i .i64, .i .i64, .s])⟩ where
  ptr := fun h => by cases h
  ks := fun l h => by cases h; exact ⟨by kernel_rfl, by kernel_rfl⟩
  agg := by kernel_rfl
  sz := by kernel_rfl
  ze := fun z h => by cases h; exact ⟨by kernel_rfl, by kernel_rfl⟩
  int := fun k h => by cases h
  str := fun h => by cases h
  bool := fun h => by cases h
  sl := fun e s b z h => by cases h
  st := fun pl h => by cases h; kernel_rfl
  ar := fun n s e h => by cases h
  mp := fun K V h => by cases h
  fl := fun pl h => by cases h; kernel_rfl
set_option maxRecDepth 100000 in
theorem ti_98 : TIok Tryd.prog 98 ⟨.ar 11 1 9, true, 11, (some [.string ⟨#[]⟩, .string ⟨#[]⟩, .string ⟨#[]⟩, .string ⟨#[]⟩, .string ⟨#[]⟩, .string ⟨#[]⟩, .string ⟨#[]⟩, .string ⟨#[]⟩, .string ⟨#[]⟩, .string ⟨#[]⟩, .string ⟨#[]⟩]), none⟩ where
  ptr := fun h => by cases h
  ks := fun l h => by cases h
  agg := by kernel_rfl
  sz := by kernel_rfl
  ze := fun z h => by cases h; exact ⟨by kernel_rfl, by kernel_rfl⟩
  int := fun k h => by cases h
  str := fun h => by cases h
  bool := fun h => by cases h
  sl := fun e s b z h => by cases h
  st := fun pl h => by cases h
  ar := fun n s e h => by cases h; exact ⟨by kernel_rfl, by kernel_rfl, by kernel_rfl⟩
  mp := fun K V h => by cases h
  fl := fun pl h => by cases h
set_option maxRecDepth 100000 in
theorem ti_105 : TIok Tryd.prog 105 ⟨.sl 55 2 32 [.string ⟨#[]⟩, .string ⟨#[]⟩], false, 1, (some [.slice none 0 0]), none⟩ where
  ptr := fun h => by cases h
  ks := fun l h => by cases h
  agg := by kernel_rfl
  sz := by kernel_rfl
  ze := fun z h => by cases h; exact ⟨by kernel_rfl, by kernel_rfl⟩
  int := fun k h => by cases h
  str := fun h => by cases h
  bool := fun h => by cases h
  sl := fun e s b z h => by cases h; exact ⟨by kernel_rfl, by kernel_rfl, by kernel_rfl, by decide, by kernel_rfl⟩
  st := fun pl h => by cases h
  ar := fun n s e h => by cases h
  mp := fun K V h => by cases h
  fl := fun pl h => by cases h
set_option maxRecDepth 100000 in
theorem ti_108 : TIok Tryd.prog 108 ⟨.ptr, false, 1, (some [.pointer none]), none⟩ where
  ptr := fun h => ⟨111, by kernel_rfl⟩
  ks := fun l h => by cases h
  agg := by kernel_rfl
  sz := by kernel_rfl
  ze := fun z h => by cases h; exact ⟨by kernel_rfl, by kernel_rfl⟩
  int := fun k h => by cases h
  str := fun h => by cases h
  bool := fun h => by cases h
  sl := fun e s b z h => by cases h
  st := fun pl h => by cases h
  ar := fun n s e h => by cases h
  mp := fun K V h => by cases h
  fl := fun pl h => by cases h
set_option maxRecDepth 100000 in
theorem ti_109 : TIok Tryd.prog 109 ⟨.sl 5 1 1 [.int .u8 0], false, 1, (some [.slice none 0 0]), none⟩ where
  ptr := fun h => by cases h
  ks := fun l h => by cases h
  agg := by kernel_rfl
  sz := by kernel_rfl
  ze := fun z h => by cases h; exact ⟨by kernel_rfl, by kernel_rfl⟩
  int := fun k h => by cases h
  str := fun h => by cases h
  bool := fun h => by cases h
  sl := fun e s b z h => by cases h; exact ⟨by kernel_rfl, by kernel_rfl, by kernel_rfl, by decide, by kernel_rfl⟩
  st := fun pl h => by cases h
  ar := fun n s e h => by cases h
  mp := fun K V h => by cases h
  fl := fun pl h => by cases h
set_option maxRecDepth 100000 in
theorem ti_111 : TIok Tryd.prog 111 ⟨.st [(0, 1, true), (1, 1, true)], true, 2, (some [.pointer none, .slice none 0 0]), none⟩ where
  ptr := fun h => by cases h
  ks := fun l h => by cases h
  agg := by kernel_rfl
  sz := by kernel_rfl
  ze := fun z h => by cases h; exact ⟨by kernel_rfl, by kernel_rfl⟩
  int := fun k h => by cases h
  str := fun h => by cases h
  bool := fun h => by cases h
  sl := fun e s b z h => by cases h
  st := fun pl h => by cases h; kernel_rfl
  ar := fun n s e h => by cases h
  mp := fun K V h => by cases h
  fl := fun pl h => by cases h; kernel_rfl
set_option maxRecDepth 100000 in
theorem ti_132 : TIok Tryd.prog 132 ⟨.ar 2 3 67, true, 6, (some [.string ⟨#[]⟩, .int .i64 0, .slice none 0 0, .string ⟨#[]⟩, .int .i64 0, .slice none 0 0]), none⟩ where
  ptr := fun h => by cases h
  ks := fun l h => by cases h
  agg := by kernel_rfl
  sz := by kernel_rfl
  ze := fun z h => by cases h; exact ⟨by kernel_rfl, by kernel_rfl⟩
  int := fun k h => by cases h
  str := fun h => by cases h
  bool := fun h => by cases h
  sl := fun e s b z h => by cases h
  st := fun pl h => by cases h
  ar := fun n s e h => by cases h; exact ⟨by kernel_rfl, by kernel_rfl, by kernel_rfl⟩
  mp := fun K V h => by cases h
  fl := fun pl h => by cases h
set_option maxRecDepth 100000 in
theorem ti_140 : TIok Tryd.prog 140 ⟨.int .u64, false, 1, (some [.int .u64 0]), none⟩ where
  ptr := fun h => by cases h
  ks := fun l h => by cases h
  agg := by kernel_rfl
  sz := by kernel_rfl
  ze := fun z h => by cases h; exact ⟨by kernel_rfl, by kernel_rfl⟩
  int := fun k h => by cases h; kernel_rfl
  str := fun h => by cases h
  bool := fun h => by cases h
  sl := fun e s b z h => by cases h
  st := fun pl h => by cases h
  ar := fun n s e h => by cases h
  mp := fun K V h => by cases h
  fl := fun pl h => by cases h
set_option maxRecDepth 100000 in
theorem ti_145 : TIok Tryd.prog 145 ⟨.ar 3 11 26, true, 33, (some [.bool false, .string ⟨#[]⟩, .string ⟨#[]⟩, .int .i64 0, .int .i64 0, .int .i64 0, .int .i64 0, .bool false, .int .i64 0, .int .u64 0, .bool false, .bool false, .string ⟨#[]⟩, .string ⟨#[]⟩, .int .i64 0, .int .i64 0, .int .i64 0, .int .i64 0, .bool false, .int .i64 0, .int .u64 0, .bool false, .bool false, .string ⟨#[]⟩, .string ⟨#[]⟩, .int .i64 0, .int .i64 0, .int .i64 0, .int .i64 0, .bool false, .int .i64 0, .int .u64 0, .bool false]), none⟩ where
  ptr := fun h => by cases h
  ks := fun l h => by cases h
  agg := by kernel_rfl
  sz := by kernel_rfl
  ze := fun z h => by cases h; exact ⟨by kernel_rfl, by kernel_rfl⟩
  int := fun k h => by cases h
  str := fun h => by cases h
  bool := fun h => by cases h
  sl := fun e s b z h => by cases h
  st := fun pl h => by cases h
  ar := fun n s e h => by cases h; exact ⟨by kernel_rfl, by kernel_rfl, by kernel_rfl⟩
  mp := fun K V h => by cases h
  fl := fun pl h => by cases h
set_option maxRecDepth 100000 in
theorem ti_149 : TIok Tryd.prog 149 ⟨.st [(0, 1, true), (1, 1, true), (2, 1, true)], true, 3, (some [.int .u32 0, .int .u32 0, .slice none 0 0]), none⟩ where
  ptr := fun h => by cases h
  ks := fun l h => by cases h
  agg := by kernel_rfl
  sz := by kernel_rfl
  ze := fun z h => by cases h; exact ⟨by kernel_rfl, by kernel_rfl⟩
  int := fun k h => by cases h
  str := fun h => by cases h
  bool := fun h => by cases h
  sl := fun e s b z h => by cases h
  st := fun pl h => by cases h; kernel_rfl
  ar := fun n s e h => by cases h
  mp := fun K V h => by cases h
  fl := fun pl h => by cases h; kernel_rfl
set_option maxRecDepth 100000 in
theorem ti_161 : TIok Tryd.prog 161 ⟨.ptr, false, 1, (some [.pointer none]), none⟩ where
  ptr := fun h => ⟨5, by kernel_rfl⟩
  ks := fun l h => by cases h
  agg := by kernel_rfl
  sz := by kernel_rfl
  ze := fun z h => by cases h; exact ⟨by kernel_rfl, by kernel_rfl⟩
  int := fun k h => by cases h
  str := fun h => by cases h
  bool := fun h => by cases h
  sl := fun e s b z h => by cases h
  st := fun pl h => by cases h
  ar := fun n s e h => by cases h
  mp := fun K V h => by cases h
  fl := fun pl h => by cases h
set_option maxRecDepth 100000 in
theorem ti_171 : TIok Tryd.prog 171 ⟨.ar 2 1 9, true, 2, (some [.string ⟨#[]⟩, .string ⟨#[]⟩]), none⟩ where
  ptr := fun h => by cases h
  ks := fun l h => by cases h
  agg := by kernel_rfl
  sz := by kernel_rfl
  ze := fun z h => by cases h; exact ⟨by kernel_rfl, by kernel_rfl⟩
  int := fun k h => by cases h
  str := fun h => by cases h
  bool := fun h => by cases h
  sl := fun e s b z h => by cases h
  st := fun pl h => by cases h
  ar := fun n s e h => by cases h; exact ⟨by kernel_rfl, by kernel_rfl, by kernel_rfl⟩
  mp := fun K V h => by cases h
  fl := fun pl h => by cases h
set_option maxRecDepth 100000 in
theorem ti_181 : TIok Tryd.prog 181 ⟨.other, false, 1, (some [.pointer none]), none⟩ where
  ptr := fun h => by cases h
  ks := fun l h => by cases h
  agg := by kernel_rfl
  sz := by kernel_rfl
  ze := fun z h => by cases h; exact ⟨by kernel_rfl, by kernel_rfl⟩
  int := fun k h => by cases h
  str := fun h => by cases h
  bool := fun h => by cases h
  sl := fun e s b z h => by cases h
  st := fun pl h => by cases h
  ar := fun n s e h => by cases h
  mp := fun K V h => by cases h
  fl := fun pl h => by cases h
set_option maxRecDepth 100000 in
theorem ti_186 : TIok Tryd.prog 186 ⟨.int .i64, false, 1, (some [.int .i64 0]), none⟩ where
  ptr := fun h => by cases h
  ks := fun l h => by cases h
  agg := by kernel_rfl
  sz := by kernel_rfl
  ze := fun z h => by cases h; exact ⟨by kernel_rfl, by kernel_rfl⟩
  int := fun k h => by cases h; kernel_rfl
  str := fun h => by cases h
  bool := fun h => by cases h
  sl := fun e s b z h => by cases h
  st := fun pl h => by cases h
  ar := fun n s e h => by cases h
  mp := fun K V h => by cases h
  fl := fun pl h => by cases h
set_option maxRecDepth 100000 in
theorem ti_202 : TIok Tryd.prog 202 ⟨.int .u64, false, 1, (some [.int .u64 0]), none⟩ where
  ptr := fun h => by cases h
  ks := fun l h => by cases h
  agg := by kernel_rfl
  sz := by kernel_rfl
  ze := fun z h => by cases h; exact ⟨by kernel_rfl, by kernel_rfl⟩
  int := fun k h => by cases h; kernel_rfl
  str := fun h => by cases h
  bool := fun h => by cases h
  sl := fun e s b z h => by cases h
  st := fun pl h => by cases h
  ar := fun n s e h => by cases h
  mp := fun K V h => by cases h
  fl := fun pl h => by cases h
set_option maxRecDepth 100000 in
theorem ti_206 : TIok Tryd.prog 206 ⟨.ptr, false, 1, (some [.pointer none]), none⟩ where
  ptr := fun h => ⟨3, by kernel_rfl⟩
  ks := fun l h => by cases h
  agg := by kernel_rfl
  sz := by kernel_rfl
  ze := fun z h => by cases h; exact ⟨by kernel_rfl, by kernel_rfl⟩
  int := fun k h => by cases h
  str := fun h => by cases h
  bool := fun h => by cases h
  sl := fun e s b z h => by cases h
  st := fun pl h => by cases h
  ar := fun n s e h => by cases h
  mp := fun K V h => by cases h
  fl := fun pl h => by cases h
set_option maxRecDepth 100000 in
theorem ti_208 : TIok Tryd.prog 208 ⟨.ar 8 1 49, true, 8, (some [.int .u32 0, .int .u32 0, .int .u32 0, .int .u32 0, .int .u32 0, .int .u32 0, .int .u32 0, .int .u32 0]), none⟩ where
  ptr := fun h => by cases h
  ks := fun l h => by cases h
  agg := by kernel_rfl
  sz := by kernel_rfl
  ze := fun z h => by cases h; exact ⟨by kernel_rfl, by kernel_rfl⟩
  int := fun k h => by cases h
  str := fun h => by cases h
  bool := fun h => by cases h
  sl := fun e s b z h => by cases h
  st := fun pl h => by cases h
  ar := fun n s e h => by cases h; exact ⟨by kernel_rfl, by kernel_rfl, by kernel_rfl⟩
  mp := fun K V h => by cases h
  fl := fun pl h => by cases h
set_option maxRecDepth 100000 in
theorem ti_210 : TIok Tryd.prog 210 ⟨.ar 24 1 5, true, 24, (some [.int .u8 0, .int .u8 0, .int .u8 0, .int .u8 0, .int .u8 0, .int .u8 0, .int .u8 0, .int .u8 0, .int .u8 0, .int .u8 0, .int .u8 0, .int .u8 0, .int .u8 0, .int .u8 0, .int .u8 0, .int .u8 0, .int .u8 0, .int .u8 0, .int .u8 0, .int .u8 0, .int .u8 0, .int .u8 0, .int .u8 0, .int .u8 0]), none⟩ where
  ptr := fun h => by cases h
  ks := fun l h => by cases h
  agg := by kernel_rfl
  sz := by kernel_rfl
  ze := fun z h => by cases h; exact ⟨by kernel_rfl, by kernel_rfl⟩
  int := fun k h => by cases h
  str := fun h => by cases h
  bool := fun h => by cases h
  sl := fun e s b z h => by cases h
  st := fun pl h => by cases h
  ar := fun n s e h => by cases h; exact ⟨by kernel_rfl, by kernel_rfl, by kernel_rfl⟩
  mp := fun K V h => by cases h
  fl := fun pl h => by cases h
set_option maxRecDepth 100000 in
theorem ti_220 : TIok Tryd.prog 220 ⟨.ar 64 1 49, true, 64, (some [.int .u32 0, .int .u32 0, .int .u32 0, .int .u32 0, .int .u32 0, .int .u32 0, .int .u32 0, .int .u32 0, .int .u32 0, .int .u32 0, .int .u32 0, .int .u32 0, .int .u32 0, .int .u32 0, .int .u32 0, .int .u32 0, .int .u32 0, .int .u32 0, .int .u32 0, .int .u32 0, .int .u32 0, .int .u32 0, .int .u32 0, .int .u32 0, .int .u32 0, .int .u32 0, .int .u32 0, .int .u32 0, .int .u32 0, .int .u32 0, .int .u32 0, .int .u32 0, .int .u32 0, .int .u32 0, .int .u32 0, .int .u32 0, .int .u32 0, .int .u32 0, .int .u32 0, .int .u32 0, .int .u32 0, .int .u32 0, .int .u32 0, .int .u32 0, .int .u32 0, .int .u32 0, .int .u32 0, .int .u32 0, .int .u32 0, .int .u32 0, .int .u32 0, .int .u32 0, .int .u32 0, .int .u32 0, .int .u32 0, .int .u32 0, .int .u32 0, .int .u32 0, .int .u32 0, .int .u32 0, .int .u32 0, .int .u32 0, .int .u32 0, .int .u32 0]), none⟩ where
  ptr := fun h => by cases h
  ks := fun l h => by cases h
  agg := by kernel_rfl
  sz := by kernel_rfl
  ze := fun z h => by cases h; exact ⟨by kernel_rfl, by kernel_rfl⟩
  int := fun k h => by cases h
  str := fun h => by cases h
  bool := fun h => by cases h
  sl := fun e s b z h => by cases h
  st := fun pl h => by cases h
  ar := fun n s e h => by cases h; exact ⟨by kernel_rfl, by kernel_rfl, by kernel_rfl⟩
  mp := fun K V h => by cases h
  fl := fun pl h => by cases h
set_option maxRecDepth 100000 in
theorem ti_225 : TIok Tryd.prog 225 ⟨.ar 20 1 22, true, 20, (some [.int .u64 0, .int .u64 0, .int .u64 0, .int .u64 0, .int .u64 0, .int .u64 0, .int .u64 0, .int .u64 0, .int .u64 0, .int .u64 0, .int .u64 0, .int .u64 0, .int .u64 0, .int .u64 0, .int .u64 0, .int .u64 0, .int .u64 0, .int .u64 0, .int .u64 0, .int .u64 0]), none⟩ where
  ptr := fun h => by cases h
  ks := fun l h => by cases h
  agg := by kernel_rfl
  sz := by kernel_rfl
  ze := fun z h => by cases h; exact ⟨by kernel_rfl, by kernel_rfl⟩
  int := fun k h => by cases h
  str := fun h => by cases h
  bool := fun h => by cases h
  sl := fun e s b z h => by cases h
  st := fun pl h => by cases h
  ar := fun n s e h => by cases h; exact ⟨by kernel_rfl, by kernel_rfl, by kernel_rfl⟩
  mp := fun K V h => by cases h
  fl := fun pl h => by cases h
set_option maxRecDepth 100000 in
theorem ti_226 : TIok Tryd.prog 226 ⟨.ar 65 1 5, true, 65, (some [.int .u8 0, .int .u8 0, .int .u8 0, .int .u8 0, .int .u8 0, .int .u8 0, .int .u8 0, .int .u8 0, .int .u8 0, .int .u8 0, .int .u8 0, .int .u8 0, .int .u8 0, .int .u8 0, .int .u8 0, .int .u8 0, .int .u8 0, .int .u8 0, .int .u8 0, .int .u8 0, .int .u8 0, .int .u8 0, .int .u8 0, .int .u8 0, .int .u8 0, .int .u8 0, .int .u8 0, .int .u8 0, .int .u8 0, .int .u8 0, .int .u8 0, .int .u8 0, .int .u8 0, .int .u8 0, .int .u8 0, .int .u8 0, .int .u8 0, .int .u8 0, .int .u8 0, .int .u8 0, .int .u8 0, .int .u8 0, .int .u8 0, .int .u8 0, .int .u8 0, .int .u8 0, .int .u8 0, .int .u8 0, .int .u8 0, .int .u8 0, .int .u8 0, .int .u8 0, .int .u8 0, .int .u8 0, .int .u8 0, .int .u8 0, .int .u8 0, .int .u8 0, .int .u8 0, .int .u8 0, .int .u8 0, .int .u8 0, .int .u8 0, .int .u8 0, .int .u8 0]), none⟩ where
  ptr := fun h => by cases h
  ks := fun l h => by cases h
  agg := by kernel_rfl
  sz := by kernel_rfl
  ze := fun z h => by cases h; exact ⟨by kernel_rfl, by kernel_rfl⟩
  int := fun k h => by cases h
  str := fun h => by cases h
  bool := fun h => by cases h
  sl := fun e s b z h => by cases h
  st := fun pl h => by cases h
  ar := fun n s e h => by cases h; exact ⟨by kernel_rfl, by kernel_rfl, by kernel_rfl⟩
  mp := fun K V h => by cases h
  fl := fun pl h => by cases h
set_option maxRecDepth 100000 in
theorem ti_228 : TIok Tryd.prog 228 ⟨.ar 256 1 5, true, 256, none, none⟩ where
  ptr := fun h => by cases h
  ks := fun l h => by cases h
  agg := by kernel_rfl
  sz := by kernel_rfl
  ze := fun z h => by cases h
  int := fun k h => by cases h
  str := fun h => by cases h
  bool := fun h => by cases h
  sl := fun e s b z h => by cases h
  st := fun pl h => by cases h
  ar := fun n s e h => by cases h; exact ⟨by kernel_rfl, by kernel_rfl, by kernel_rfl⟩
  mp := fun K V h => by cases h
  fl := fun pl h => by cases h
set_option maxRecDepth 100000 in
theorem ti_230 : TIok Tryd.prog 230 ⟨.st [(0, 1, true), (1, 1, true)], true, 2, (some [.int .u8 0, .int .u8 0]), (some [.i .u8, .i .u8])⟩ where
  ptr := fun h => by cases h
  ks := fun l h => by cases h; exact ⟨by kernel_rfl, by kernel_rfl⟩
  agg := by kernel_rfl
  sz := by kernel_rfl
  ze := fun z h => by cases h; exact ⟨by kernel_rfl, by kernel_rfl⟩
  int := fun k h => by cases h
  str := fun h => by cases h
  bool := fun h => by cases h
  sl := fun e s b z h => by cases h
  st := fun pl h => by cases h; kernel_rfl
  ar := fun n s e h => by cases h
  mp := fun K V h => by cases h
  fl := fun pl h => by cases h; kernel_rfl
set_option maxRecDepth 100000 in
theorem ti_231 : TIok Tryd.prog 231 ⟨.ar 16 2 230, true, 32, (some [.int .u8 0, .int .u8 0, .int .u8 0, .int .u8 0, .int .u8 0, .int .u8 0, .int .u8 0, .int .u8 0, .int .u8 0, .int .u8 0, .int .u8 0, .int .u8 0, .int .u8 0, .int .u8 0, .int .u8 0, .int .u8 0, .int .u8 0, .int .u8 0, .int .u8 0, .int .u8 0, .int .u8 0, .int .u8 0, .int .u8 0, .int .u8 0, .int .u8 0, .int .u8 0, .int .u8 0, .int .u8 0, .int .u8 0, .int .u8 0, .int .u8 0, .int .u8 0]), none⟩ where
  ptr := fun h => by cases h
  ks := fun l h => by cases h
  agg := by kernel_rfl
  sz := by kernel_rfl
  ze := fun z h => by cases h; exact ⟨by kernel_rfl, by kernel_rfl⟩
  int := fun k h => by cases h
  str := fun h => by cases h
  bool := fun h => by cases h
  sl := fun e s b z h => by cases h
  st := fun pl h => by cases h
  ar := fun n s e h => by cases h; exact ⟨by kernel_rfl, by kernel_rfl, by kernel_rfl⟩
  mp := fun K V h => by cases h
  fl := fun pl h => by cases h
set_option maxRecDepth 100000 in
theorem ti_232 : TIok Tryd.prog 232 ⟨.ar 32 1 5, true, 32, (some [.int .u8 0, .int .u8 0, .int .u8 0, .int .u8 0, .int .u8 0, .int .u8 0, .int .u8 0, .int .u8 0, .int .u8 0, .int .u8 0, .int .u8 0, .int .u8 0, .int .u8 0, .int .u8 0, .int .u8 0, .int .u8 0, .int .u8 0, .int .u8 0, .int .u8 0, .int .u8 0, .int .u8 0, .int .u8 0, .int .u8 0, .int .u8 0, .int .u8 0, .int .u8 0, .int .u8 0, .int .u8 0, .int .u8 0, .int .u8 0, .int .u8 0, .int .u8 0]), none⟩ where
  ptr := fun h => by cases h
  ks := fun l h => by cases h
  agg := by kernel_rfl
  sz := by kernel_rfl
  ze := fun z h => by cases h; exact ⟨by kernel_rfl, by kernel_rfl⟩
  int := fun k h => by cases h
  str := fun h => by cases h
  bool := fun h => by cases h
  sl := fun e s b z h => by cases h
  st := fun pl h => by cases h
  ar := fun n s e h => by cases h; exact ⟨by kernel_rfl, by kernel_rfl, by kernel_rfl⟩
  mp := fun K V h => by cases h
  fl := fun pl h => by cases h
set_option maxRecDepth 100000 in
theorem ti_233 : TIok Tryd.prog 233 ⟨.ar 64 1 5, true, 64, (some [.int .u8 0, .int .u8 0, .int .u8 0, .int .u8 0, .int .u8 0, .int .u8 0, .int .u8 0, .int .u8 0, .int .u8 0, .int .u8 0, .int .u8 0, .int .u8 0, .int .u8 0, .int .u8 0, .int .u8 0, .int .u8 0, .int .u8 0, .int .u8 0, .int .u8 0, .int .u8 0, .int .u8 0, .int .u8 0, .int .u8 0, .int .u8 0, .int .u8 0, .int .u8 0, .int .u8 0, .int .u8 0, .int .u8 0, .int .u8 0, .int .u8 0, .int .u8 0, .int .u8 0, .int .u8 0, .int .u8 0, .int .u8 0, .int .u8 0, .int .u8 0, .int .u8 0, .int .u8 0, .int .u8 0, .int .u8 0, .int .u8 0, .int .u8 0, .int .u8 0, .int .u8 0, .int .u8 0, .int .u8 0, .int .u8 0, .int .u8 0, .int .u8 0, .int .u8 0, .int .u8 0, .int .u8 0, .int .u8 0, .int .u8 0, .int .u8 0, .int .u8 0, .int .u8 0, .int .u8 0, .int .u8 0, .int .u8 0, .int .u8 0, .int .u8 0]), none⟩ where
  ptr := fun h => by cases h
  ks := fun l h => by cases h
  agg := by kernel_rfl
  sz := by kernel_rfl
  ze := fun z h => by cases h; exact ⟨by kernel_rfl, by kernel_rfl⟩
  int := fun k h => by cases h
  str := fun h => by cases h
  bool := fun h => by cases h
  sl := fun e s b z h => by cases h
  st := fun pl h => by cases h
  ar := fun n s e h => by cases h; exact ⟨by kernel_rfl, by kernel_rfl, by kernel_rfl⟩
  mp := fun K V h => by cases h
  fl := fun pl h => by cases h
def tabT : TT := (.node 71 ⟨.st [(0, 1, true), (1, 1, true), (2, 1, true), (3, 1, true), (4, 1, true)], true, 5, (some [.string ⟨#[]⟩, .string ⟨#[]⟩, .string ⟨#[]⟩, .int .i64 0, .slice none 0 0]), none⟩ (.node 34 ⟨.sl 149 3 32 [.int .u32 0, .int .u32 0, .slice none 0 0], false, 1, (some [.slice none 0 0]), none⟩ (.node 11 ⟨.str, false, 1, (some [.string ⟨#[]⟩]), none⟩ (.node 5 ⟨.int .u8, false, 1, (some [.int .u8 0]), none⟩ (.node 3 ⟨.int .i64, false, 1, (some [.int .i64 0]), none⟩ (.node 2 ⟨.int .i64, false, 1, (some [.int .i64 0]), none⟩ .leaf .leaf) (.node 4 ⟨.bool, false, 1, (some [.bool false]), none⟩ .leaf .leaf)) (.node 7 ⟨.st [(0, 1, true), (1, 1, true), (2, 1, true), (3, 1, true)], true, 4, (some [.int .i64 0, .int .i64 0, .bool false, .int .u8 0]), (some [.i .i64, .i .i64, .b, .i .u8])⟩ (.node 6 ⟨.int .u8, false, 1, (some [.int .u8 0]), none⟩ .leaf .leaf) (.node 9 ⟨.str, false, 1, (some [.string ⟨#[]⟩]), none⟩ .leaf .leaf))) (.node 26 ⟨.st [(0, 1, true), (1, 1, true), (2, 1, true), (3, 1, true), (4, 1, true), (5, 1, true), (6, 1, true), (7, 3, false), (10, 1, true)], true, 11, (some [.bool false, .string ⟨#[]⟩, .string ⟨#[]⟩, .int .i64 0, .int .i64 0, .int .i64 0, .int .i64 0, .bool false, .int .i64 0, .int .u64 0, .bool false]), (some [.b, .s, .s, .i .i64, .i .i64, .i .i64, .i .i64, .b, .i .i64, .i .u64, .b])⟩ (.node 22 ⟨.int .u64, false, 1, (some [.int .u64 0]), none⟩ (.node 21 ⟨.int .i32, false, 1, (some [.int .i32 0]), none⟩ .leaf .leaf) (.node 24 ⟨.st [(0, 1, true), (1, 1, true), (2, 1, true)], true, 3, (some [.bool false, .int .i64 0, .int .u64 0]), (some [.b, .i .i64, .i .u64])⟩ .leaf .leaf)) (.node 33 ⟨.st [(0, 1, true), (1, 1, true), (2, 1, true), (3, 1, true), (4, 1, true)], true, 5, (some [.bool false, .int .i64 0, .string ⟨#[]⟩, .int .i64 0, .int .i64 0]), (some [.b, .i .i64, .s, .i .i64, .i .i64])⟩ (.node 31 ⟨.st [(0, 11, false), (11, 11, false), (22, 11, false)], true, 33, (some [.bool false, .string ⟨#[]⟩, .string ⟨#[]⟩, .int .i64 0, .int .i64 0, .int .i64 0, .int .i64 0, .bool false, .int .i64 0, .int .u64 0, .bool false, .bool false, .string ⟨#[]⟩, .string ⟨#[]⟩, .int .i64 0, .int .i64 0, .int .i64 0, .int .i64 0, .bool false, .int .i64 0, .int .u64 0, .bool false, .bool false, .string ⟨#[]⟩, .string ⟨#[]⟩, .int .i64 0, .int .i64 0, .int .i64 0, .int .i64 0, .bool false, .int .i64 0, .int .u64 0, .bool false]), (some [.b, .s, .s, .i .i64, .i .i64, .i .i64, .i .i64, .b, .i .i64, .i .u64, .b, .b, .s, .s, .i .i64, .i .i64, .i .i64, .i .i64, .b, .i .i64, .i .u64, .b, .b, .s, .s, .i .i64, .i .i64, .i .i64, .i .i64, .b, .i .i64, .i .u64, .b])⟩ .leaf .leaf) .leaf))) (.node 49 ⟨.int .u32, false, 1, (some [.int .u32 0]), none⟩ (.node 45 ⟨.sl 94 4 40 [.int .i64 0, .int .i64 0, .int .i64 0, .string ⟨#[]⟩], false, 1, (some [.slice none 0 0]), none⟩ (.node 37 ⟨.sl 36 41 416 [.string ⟨#[]⟩, .string ⟨#[]⟩, .bool false, .string ⟨#[]⟩, .string ⟨#[]⟩, .int .i64 0, .int .i64 0, .int .i64 0, .int .i64 0, .bool false, .int .i64 0, .int .u64 0, .bool false, .bool false, .string ⟨#[]⟩, .string ⟨#[]⟩, .int .i64 0, .int .i64 0, .int .i64 0, .int .i64 0, .bool false, .int .i64 0, .int .u64 0, .bool false, .bool false, .string ⟨#[]⟩, .string ⟨#[]⟩, .int .i64 0, .int .i64 0, .int .i64 0, .int .i64 0, .bool false, .int .i64 0, .int .u64 0, .bool false, .bool false, .int .i64 0, .string ⟨#[]⟩, .int .i64 0, .int .i64 0, .slice none 0 0], false, 1, (some [.slice none 0 0]), none⟩ (.node 36 ⟨.st [(0, 1, true), (1, 1, true), (2, 33, false), (35, 5, false), (40, 1, true)], true, 41, (some [.string ⟨#[]⟩, .string ⟨#[]⟩, .bool false, .string ⟨#[]⟩, .string ⟨#[]⟩, .int .i64 0, .int .i64 0, .int .i64 0, .int .i64 0, .bool false, .int .i64 0, .int .u64 0, .bool false, .bool false, .string ⟨#[]⟩, .string ⟨#[]⟩, .int .i64 0, .int .i64 0, .int .i64 0, .int .i64 0, .bool false, .int .i64 0, .int .u64 0, .bool false, .bool false, .string ⟨#[]⟩, .string ⟨#[]⟩, .int .i64 0, .int .i64 0, .int .i64 0, .int .i64 0, .bool false, .int .i64 0, .int .u64 0, .bool false, .bool false, .int .i64 0, .string ⟨#[]⟩, .int .i64 0, .int .i64 0, .slice none 0 0]), none⟩ .leaf .leaf) (.node 38 ⟨.int .i64, false, 1, (some [.int .i64 0]), none⟩ .leaf .leaf)) (.node 48 ⟨.sl 9 1 16 [.string ⟨#[]⟩], false, 1, (some [.slice none 0 0]), none⟩ (.node 46 ⟨.sl 53 5 48 [.int .i64 0, .string ⟨#[]⟩, .int .i64 0, .int .u32 0, .int .i64 0], false, 1, (some [.slice none 0 0]), none⟩ .leaf .leaf) .leaf)) (.node 65 ⟨.sl 71 5 80 [.string ⟨#[]⟩, .string ⟨#[]⟩, .string ⟨#[]⟩, .int .i64 0, .slice none 0 0], false, 1, (some [.slice none 0 0]), none⟩ (.node 53 ⟨.st [(0, 1, true), (1, 1, true), (2, 1, true), (3, 2, false)], true, 5, (some [.int .i64 0, .string ⟨#[]⟩, .int .i64 0, .int .u32 0, .int .i64 0]), (some [.i .i64, .s, .i .i64, .i .u32, .i .i64])⟩ (.node 51 ⟨.st [(0, 1, true), (1, 1, true)], true, 2, (some [.int .u32 0, .int .i64 0]), (some [.i .u32, .i .i64])⟩ .leaf .leaf) (.node 55 ⟨.st [(0, 1, true), (1, 1, true)], true, 2, (some [.string ⟨#[]⟩, .string ⟨#[]⟩]), (some [.s, .s])⟩ .leaf .leaf)) (.node 69 ⟨.sl 51 2 16 [.int .u32 0, .int .i64 0], false, 1, (some [.slice none 0 0]), none⟩ (.node 67 ⟨.st [(0, 1, true), (1, 1, true), (2, 1, true)], true, 3, (some [.string ⟨#[]⟩, .int .i64 0, .slice none 0 0]), none⟩ .leaf .leaf) .leaf)))) (.node 181 ⟨.other, false, 1, (some [.pointer none]), none⟩ (.node 111 ⟨.st [(0, 1, true), (1, 1, true)], true, 2, (some [.pointer none, .slice none 0 0]), none⟩ (.node 98 ⟨.ar 11 1 9, true, 11, (some [.string ⟨#[]⟩, .string ⟨#[]⟩, .string ⟨#[]⟩, .string ⟨#[]⟩, .string ⟨#[]⟩, .string ⟨#[]⟩, .string ⟨#[]⟩, .string ⟨#[]⟩, .string ⟨#[]⟩, .string ⟨#[]⟩, .string ⟨#[]⟩]), none⟩ (.node 89 ⟨.ar 5 1 3, true, 5, (some [.int .i64 0, .int .i64 0, .int .i64 0, .int .i64 0, .int .i64 0]), none⟩ (.node 87 ⟨.sl 3 1 8 [.int .i64 0], false, 1, (some [.slice none 0 0]), none⟩ .leaf .leaf) (.node 94 ⟨.st [(0, 1, true), (1, 1, true), (2, 1, true), (3, 1, true)], true, 4, (some [.int .i64 0, .int .i64 0, .int .i64 0, .string ⟨#[]⟩]), (some [.i .i64, .i .i64, .i .i64, .s])⟩ .leaf .leaf)) (.node 108 ⟨.ptr, false, 1, (some [.pointer none]), none⟩ (.node 105 ⟨.sl 55 2 32 [.string ⟨#[]⟩, .string ⟨#[]⟩], false, 1, (some [.slice none 0 0]), none⟩ .leaf .leaf) (.node 109 ⟨.sl 5 1 1 [.int .u8 0], false, 1, (some [.slice none 0 0]), none⟩ .leaf .leaf))) (.node 149 ⟨.st [(0, 1, true), (1, 1, true), (2, 1, true)], true, 3, (some [.int .u32 0, .int .u32 0, .slice none 0 0]), none⟩ (.node 140 ⟨.int .u64, false, 1, (some [.int .u64 0]), none⟩ (.node 132 ⟨.ar 2 3 67, true, 6, (some [.string ⟨#[]⟩, .int .i64 0, .slice none 0 0, .string ⟨#[]⟩, .int .i64 0, .slice none 0 0]), none⟩ .leaf .leaf) (.node 145 ⟨.ar 3 11 26, true, 33, (some [.bool false, .string ⟨#[]⟩, .string ⟨#[]⟩, .int .i64 0, .int .i64 0, .int .i64 0, .int .i64 0, .bool false, .int .i64 0, .int .u64 0, .bool false, .bool false, .string ⟨#[]⟩, .string ⟨#[]⟩, .int .i64 0, .int .i64 0, .int .i64 0, .int .i64 0, .bool false, .int .i64 0, .int .u64 0, .bool false, .bool false, .string ⟨#[]⟩, .string ⟨#[]⟩, .int .i64 0, .int .i64 0, .int .i64 0, .int .i64 0, .bool false, .int .i64 0, .int .u64 0, .bool false]), none⟩ .leaf .leaf)) (.node 171 ⟨.ar 2 1 9, true, 2, (some [.string ⟨#[]⟩, .string ⟨#[]⟩]), none⟩ (.node 161 ⟨.ptr, false, 1, (some [.pointer none]), none⟩ .leaf .leaf) .leaf))) (.node 225 ⟨.ar 20 1 22, true, 20, (some [.int .u64 0, .int .u64 0, .int .u64 0, .int .u64 0, .int .u64 0, .int .u64 0, .int .u64 0, .int .u64 0, .int .u64 0, .int .u64 0, .int .u64 0, .int .u64 0, .int .u64 0, .int .u64 0, .int .u64 0, .int .u64 0, .int .u64 0, .int .u64 0, .int .u64 0, .int .u64 0]), none⟩ (.node 208 ⟨.ar 8 1 49, true, 8, (some [.int .u32 0, .int .u32 0, .int .u32 0, .int .u32 0, .int .u32 0, .int .u32 0, .int .u32 0, .int .u32 0]), none⟩ (.node 202 ⟨.int .u64, false, 1, (some [.int .u64 0]), none⟩ (.node 186 ⟨.int .i64, false, 1, (some [.int .i64 0]), none⟩ .leaf .leaf) (.node 206 ⟨.ptr, false, 1, (some [.pointer none]), none⟩ .leaf .leaf)) (.node 220 ⟨.ar 64 1 49, true, 64, (some [.int .u32 0, .int .u32 0, .int .u32 0, .int .u32 0, .int .u32 0, .int .u32 0, .int .u32 0, .int .u32 0, .int .u32 0, .int .u32 0, .int .u32 0, .int .u32 0, .int .u32 0, .int .u32 0, .int .u32 0, .int .u32 0, .int .u32 0, .int .u32 0, .int .u32 0, .int .u32 0, .int .u32 0, .int .u32 0, .int .u32 0, .int .u32 0, .int .u32 0, .int .u32 0, .int .u32 0, .int .u32 0, .int .u32 0, .int .u32 0, .int .u32 0, .int .u32 0, .int .u32 0, .int .u32 0, .int .u32 0, .int .u32 0, .int .u32 0, .int .u32 0, .int .u32 0, .int .u32 0, .int .u32 0, .int .u32 0, .int .u32 0, .int .u32 0, .int .u32 0, .int .u32 0, .int .u32 0, .int .u32 0, .int .u32 0, .int .u32 0, .int .u32 0, .int .u32 0, .int .u32 0, .int .u32 0, .int .u32 0, .int .u32 0, .int .u32 0, .int .u32 0, .int .u32 0, .int .u32 0, .int .u32 0, .int .u32 0, .int .u32 0, .int .u32 0]), none⟩ (.node 210 ⟨.ar 24 1 5, true, 24, (some [.int .u8 0, .int .u8 0, .int .u8 0, .int .u8 0, .int .u8 0, .int .u8 0, .int .u8 0, .int .u8 0, .int .u8 0, .int .u8 0, .int .u8 0, .int .u8 0, .int .u8 0, .int .u8 0, .int .u8 0, .int .u8 0, .int .u8 0, .int .u8 0, .int .u8 0, .int .u8 0, .int .u8 0, .int .u8 0, .int .u8 0, .int .u8 0]), none⟩ .leaf .leaf) .leaf)) (.node 231 ⟨.ar 16 2 230, true, 32, (some [.int .u8 0, .int .u8 0, .int .u8 0, .int .u8 0, .int .u8 0, .int .u8 0, .int .u8 0, .int .u8 0, .int .u8 0, .int .u8 0, .int .u8 0, .int .u8 0, .int .u8 0, .int .u8 0, .int .u8 0, .int .u8 0, .int .u8 0, .int .u8 0, .int .u8 0, .int .u8 0, .int .u8 0, .int .u8 0, .int .u8 0, .int .u8 0, .int .u8 0, .int .u8 0, .int .u8 0, .int .u8 0, .int .u8 0, .int .u8 0, .int .u8 0, .int .u8 0]), none⟩ (.node 228 ⟨.ar 256 1 5, true, 256, none, none⟩ (.node 226 ⟨.ar 65 1 5, true, 65, (some [.int .u8 0, .int .u8 0, .int .u8 0, .int .u8 0, .int .u8 0, .int .u8 0, .int .u8 0, .int .u8 0, .int .u8 0, .int .u8 0, .int .u8 0, .int .u8 0, .int .u8 0, .int .u8 0, .int .u8 0, .int .u8 0, .int .u8 0, .int .u8 0, .int .u8 0, .int .u8 0, .int .u8 0, .int .u8 0, .int .u8 0, .int .u8 0, .int .u8 0, .int .u8 0, .int .u8 0, .int .u8 0, .int .u8 0, .int .u8 0, .int .u8 0, .int .u8 0, .int .u8 0, .int .u8 0, .int .u8 0, .int .u8 0, .int .u8 0, .int .u8 0, .int .u8 0, .int .u8 0, .int .u8 0, .int .u8 0, .int .u8 0, .int .u8 0, .int .u8 0, .int .u8 0, .int .u8 0, .int .u8 0, .int .u8 0, .int .u8 0, .int .u8 0, .int .u8 0, .int .u8 0, .int .u8 0, .int .u8 0, .int .u8 0, .int .u8 0, .int .u8 0, .int .u8 0, .int .u8 0, .int .u8 0, .int .u8 0, .int .u8 0, .int .u8 0, .int .u8 0]), none⟩ .leaf .leaf) (.node 230 ⟨.st [(0, 1, true), (1, 1, true)], true, 2, (some [.int .u8 0, .int .u8 0]), (some [.i .u8, .i .u8])⟩ .leaf .leaf)) (.node 233 ⟨.ar 64 1 5, true, 64, (some [.int .u8 0, .int .u8 0, .int .u8 0, .int .u8 0, .int .u8 0, .int .u8 0, .int .u8 0, .int .u8 0, .int .u8 0, .int .u8 0, .int .u8 0, .int .u8 0, .int .u8 0, .int .u8 0, .int .u8 0, .int .u8 0, .int .u8 0, .int .u8 0, .int .u8 0, .int .u8 0, .int .u8 0, .int .u8 0, .int .u8 0, .int .u8 0, .int .u8 0, .int .u8 0, .int .u8 0, .int .u8 0, .int .u8 0, .int .u8 0, .int .u8 0, .int .u8 0, .int .u8 0, .int .u8 0, .int .u8 0, .int .u8 0, .int .u8 0, .int .u8 0, .int .u8 0, .int .u8 0, .int .u8 0, .int .u8 0, .int .u8 0, .int .u8 0, .int .u8 0, .int .u8 0, .int .u8 0, .int .u8 0, .int .u8 0, .int .u8 0, .int .u8 0, .int .u8 0, .int .u8 0, .int .u8 0, .int .u8 0, .int .u8 0, .int .u8 0, .int .u8 0, .int .u8 0, .int .u8 0, .int .u8 0, .int .u8 0, .int .u8 0, .int .u8 0]), none⟩ (.node 232 ⟨.ar 32 1 5, true, 32, (some [.int .u8 0, .int .u8 0, .int .u8 0, .int .u8 0, .int .u8 0, .int .u8 0, .int .u8 0, .int .u8 0, .int .u8 0, .int .u8 0, .int .u8 0, .int .u8 0, .int .u8 0, .int .u8 0, .int .u8 0, .int .u8 0, .int .u8 0, .int .u8 0, .int .u8 0, .int .u8 0, .int .u8 0, .int .u8 0, .int .u8 0, .int .u8 0, .int .u8 0, .int .u8 0, .int .u8 0, .int .u8 0, .int .u8 0, .int .u8 0, .int .u8 0, .int .u8 0]), none⟩ .leaf .leaf) .leaf)))))
theorem tab_ok : tabT.ok Tryd.prog := ⟨ti_71, ⟨ti_34, ⟨ti_11, ⟨ti_5, ⟨ti_3, ⟨ti_2, trivial, trivial⟩, ⟨ti_4, trivial, trivial⟩⟩, ⟨ti_7, ⟨ti_6, trivial, trivial⟩, ⟨ti_9, trivial, trivial⟩⟩⟩, ⟨ti_26, ⟨ti_22, ⟨ti_21, trivial, trivial⟩, ⟨ti_24, trivial, trivial⟩⟩, ⟨ti_33, ⟨ti_31, trivial, trivial⟩, trivial⟩⟩⟩, ⟨ti_49, ⟨ti_45, ⟨ti_37, ⟨ti_36, trivial, trivial⟩, ⟨ti_38, trivial, trivial⟩⟩, ⟨ti_48, ⟨ti_46, trivial, trivial⟩, trivial⟩⟩, ⟨ti_65, ⟨ti_53, ⟨ti_51, trivial, trivial⟩, ⟨ti_55, trivial, trivial⟩⟩, ⟨ti_69, ⟨ti_67, trivial, trivial⟩, trivial⟩⟩⟩⟩, ⟨ti_181, ⟨ti_111, ⟨ti_98, ⟨ti_89, ⟨ti_87, trivial, trivial⟩, ⟨ti_94, trivial, trivial⟩⟩, ⟨ti_108, ⟨ti_105, trivial, trivial⟩, ⟨ti_109, trivial, trivial⟩⟩⟩, ⟨ti_149, ⟨ti_140, ⟨ti_132, trivial, trivial⟩, ⟨ti_145, trivial, trivial⟩⟩, ⟨ti_171, ⟨ti_161, trivial, trivial⟩, trivial⟩⟩⟩, ⟨ti_225, ⟨ti_208, ⟨ti_202, ⟨ti_186, trivial, trivial⟩, ⟨ti_206, trivial, trivial⟩⟩, ⟨ti_220, ⟨ti_210, trivial, trivial⟩, trivial⟩⟩, ⟨ti_231, ⟨ti_228, ⟨ti_226, trivial, trivial⟩, ⟨ti_230, trivial, trivial⟩⟩, ⟨ti_233, ⟨ti_232, trivial, trivial⟩, trivial⟩⟩⟩⟩⟩
end Go.Proofs.YtfpglljpngiipaaDoor
