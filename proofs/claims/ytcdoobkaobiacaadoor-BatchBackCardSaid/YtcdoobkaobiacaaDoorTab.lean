/- What the types of this translation are: the table that the walk by computation reads. Written by a program (ag.py). -/
import Derived.Test.YtcdoobkaobiacaaDoorProg
import Derived.Test.YtcdoobkaobiacaaDoorFD
namespace Go.Proofs.YtcdoobkaobiacaaDoor
set_option linter.unusedVariables false
set_option maxRecDepth 100000 in
theorem ti_2 : TIok Tryd.prog 2 ⟨.int .i64, false, 1, (some [.int .i64 0]), none⟩ where
  ptr := fun h => by cases h
  ks := fun l h => by cases h
  agg := by kernel_rfl
  sz := by kernel_rfl
  ze := fun z h => by cases h; exact ⟨by kernel_rfl, by kernel_rfl⟩
  int := fun k h => by cases h; kernel_rfl
  str := fun h => by cases h
  bool := fun h => by cases h
  sl := fun e s b z h => by cases h
  st := fun pl h => by cases h
  ar := fun n s e h => by cases h
  mp := fun K V h => by cases h
  fl := fun pl h => by cases h
set_option maxRecDepth 100000 in
theorem ti_3 : TIok Tryd.prog 3 ⟨.int .i64, false, 1, (some [.int .i64 0]), none⟩ where
  ptr := fun h => by cases h
  ks := fun l h => by cases h
  agg := by kernel_rfl
  sz := by kernel_rfl
  ze := fun z h => by cases h; exact ⟨by kernel_rfl, by kernel_rfl⟩
  int := fun k h => by cases h; kernel_rfl
  str := fun h => by cases h
  bool := fun h => by cases h
  sl := fun e s b z h => by cases h
  st := fun pl h => by cases h
  ar := fun n s e h => by cases h
  mp := fun K V h => by cases h
  fl := fun pl h => by cases h
set_option maxRecDepth 100000 in
theorem ti_4 : TIok Tryd.prog 4 ⟨.bool, false, 1, (some [.bool false]), none⟩ where
  ptr := fun h => by cases h
  ks := fun l h => by cases h
  agg := by kernel_rfl
  sz := by kernel_rfl
  ze := fun z h => by cases h; exact ⟨by kernel_rfl, by kernel_rfl⟩
  int := fun k h => by cases h
  str := fun h => by cases h
  bool := fun h => by exact by kernel_rfl
  sl := fun e s b z h => by cases h
  st := fun pl h => by cases h
  ar := fun n s e h => by cases h
  mp := fun K V h => by cases h
  fl := fun pl h => by cases h
set_option maxRecDepth 100000 in
theorem ti_5 : TIok Tryd.prog 5 ⟨.int .u8, false, 1, (some [.int .u8 0]), none⟩ where
  ptr := fun h => by cases h
  ks := fun l h => by cases h
  agg := by kernel_rfl
  sz := by kernel_rfl
  ze := fun z h => by cases h; exact ⟨by kernel_rfl, by kernel_rfl⟩
  int := fun k h => by cases h; kernel_rfl
  str := fun h => by cases h
  bool := fun h => by cases h
  sl := fun e s b z h => by cases h
  st := fun pl h => by cases h
  ar := fun n s e h => by cases h
  mp := fun K V h => by cases h
  fl := fun pl h => by cases h
set_option maxRecDepth 100000 in
theorem ti_6 : TIok Tryd.prog 6 ⟨.int .u8, false, 1, (some [.int .u8 0]), none⟩ where
  ptr := fun h => by cases h
  ks := fun l h => by cases h
  agg := by kernel_rfl
  sz := by kernel_rfl
  ze := fun z h => by cases h; exact ⟨by kernel_rfl, by kernel_rfl⟩
  int := fun k h => by cases h; kernel_rfl
  str := fun h => by cases h
  bool := fun h => by cases h
  sl := fun e s b z h => by cases h
  st := fun pl h => by cases h
  ar := fun n s e h => by cases h
  mp := fun K V h => by cases h
  fl := fun pl h => by cases h
set_option maxRecDepth 100000 in
theorem ti_7 : TIok Tryd.prog 7 ⟨.st [(0, 1, true), (1, 1, true), (2, 1, true), (3, 1, true)], true, 4, (some [.int .i64 0, .int .i64 0, .bool false, .int .u8 0]), (some [.i .i64, .i .i64, .b, .i .u8])⟩ where
  ptr := fun h => by cases h
  ks := fun l h => by cases h; exact ⟨by kernel_rfl, by kernel_rfl⟩
  agg := by kernel_rfl
  sz := by kernel_rfl
  ze := fun z h => by cases h; exact ⟨by kernel_rfl, by kernel_rfl⟩
  int := fun k h => by cases h
  str := fun h => by cases h
  bool := fun h => by cases h
  sl := fun e s b z h => by cases h
  st := fun pl h => by cases h; kernel_rfl
  ar := fun n s e h => by cases h
  mp := fun K V h => by cases h
  fl := fun pl h => by cases h; kernel_rfl
set_option maxRecDepth 100000 in
theorem ti_9 : TIok Tryd.prog 9 ⟨.str, false, 1, (some [.string ⟨#[]⟩]), none⟩ where
  ptr := fun h => by cases h
  ks := fun l h => by cases h
  agg := by kernel_rfl
  sz := by kernel_rfl
  ze := fun z h => by cases h; exact ⟨by kernel_rfl, by kernel_rfl⟩
  int := fun k h => by cases h
  str := fun h => by exact by kernel_rfl
  bool := fun h => by cases h
  sl := fun e s b z h => by cases h
  st := fun pl h => by cases h
  ar := fun n s e h => by cases h
  mp := fun K V h => by cases h
  fl := fun pl h => by cases h
set_option maxRecDepth 100000 in
theorem ti_11 : TIok Tryd.prog 11 ⟨.str, false, 1, (some [.string ⟨#[]⟩]), none⟩ where
  ptr := fun h => by cases h
  ks := fun l h => by cases h
  agg := by kernel_rfl
  sz := by kernel_rfl
  ze := fun z h => by cases h; exact ⟨by kernel_rfl, by kernel_rfl⟩
  int := fun k h => by cases h
  str := fun h => by exact by kernel_rfl
  bool := fun h => by cases h
  sl := fun e s b z h => by cases h
  st := fun pl h => by cases h
  ar := fun n s e h => by cases h
  mp := fun K V h => by cases h
  fl := fun pl h => by cases h
set_option maxRecDepth 100000 in
theorem ti_21 : TIok Tryd.prog 21 ⟨.int .i32, false, 1, (some [.int .i32 0]), none⟩ where
  ptr := fun h => by cases h
  ks := fun l h => by cases h
  agg := by kernel_rfl
  sz := by kernel_rfl
  ze := fun z h => by cases h; exact ⟨by kernel_rfl, by kernel_rfl⟩
  int := fun k h => by cases h; kernel_rfl
  str := fun h => by cases h
  bool := fun h => by cases h
  sl := fun e s b z h => by cases h
  st := fun pl h => by cases h
  ar := fun n s e h => by cases h
  mp := fun K V h => by cases h
  fl := fun pl h => by cases h
set_option maxRecDepth 100000 in
theorem ti_22 : TIok Tryd.prog 22 ⟨.int .u64, false, 1, (some [.int .u64 0]), none⟩ where
  ptr := fun h => by cases h
  ks := fun l h => by cases h
  agg := by kernel_rfl
  sz := by kernel_rfl
  ze := fun z h => by cases h; exact ⟨by kernel_rfl, by kernel_rfl⟩
  int := fun k h => by cases h; kernel_rfl
  str := fun h => by cases h
  bool := fun h => by cases h
  sl := fun e s b z h => by cases h
  st := fun pl h => by cases h
  ar := fun n s e h => by cases h
  mp := fun K V h => by cases h
  fl := fun pl h => by cases h
set_option maxRecDepth 100000 in
theorem ti_24 : TIok Tryd.prog 24 ⟨.st [(0, 1, true), (1, 1, true), (2, 1, true)], true, 3, (some [.bool false, .int .i64 0, .int .u64 0]), (some [.b, .i .i64, .i .u64])⟩ where
  ptr := fun h => by cases h
  ks := fun l h => by cases h; exact ⟨by kernel_rfl, by kernel_rfl⟩
  agg := by kernel_rfl
  sz := by kernel_rfl
  ze := fun z h => by cases h; exact ⟨by kernel_rfl, by kernel_rfl⟩
  int := fun k h => by cases h
  str := fun h => by cases h
  bool := fun h => by cases h
  sl := fun e s b z h => by cases h
  st := fun pl h => by cases h; kernel_rfl
  ar := fun n s e h => by cases h
  mp := fun K V h => by cases h
  fl := fun pl h => by cases h; kernel_rfl
set_option maxRecDepth 100000 in
theorem ti_26 : TIok Tryd.prog 26 ⟨.st [(0, 1, true), (1, 1, true), (2, 1, true), (3, 1, true), (4, 1, true), (5, 1, true), (6, 1, true), (7, 3, false), (10, 1, true)], true, 11, (some [.bool false, .string ⟨#[]⟩, .string ⟨#[]⟩, .int .i64 0, .int .i64 0, .int .i64 0, .int .i64 0, .bool false, .int .i64 0, .int .u64 0, .bool false]), (some [.b, .s, .s, .i .i64, .i .i64, .i .i64, .i .i64, .b, .i .i64, .i .u64, .b])⟩ where
  ptr := fun h => by cases h
  ks := fun l h => by cases h; exact ⟨by kernel_rfl, by kernel_rfl⟩
  agg := by kernel_rfl
  sz := by kernel_rfl
  ze := fun z h => by cases h; exact ⟨by kernel_rfl, by kernel_rfl⟩
  int := fun k h => by cases h
  str := fun h => by cases h
  bool := fun h => by cases h
  sl := fun e s b z h => by cases h
  st := fun pl h => by cases h; kernel_rfl
  ar := fun n s e h => by cases h
  mp := fun K V h => by cases h
  fl := fun pl h => by cases h; kernel_rfl
set_option maxRecDepth 100000 in
theorem ti_31 : TIok Tryd.prog 31 ⟨.st [(0, 11, false), (11, 11, false), (22, 11, false)], true, 33, (some [.bool false, .string ⟨#[]⟩, .string ⟨#[]⟩, .int .i64 0, .int .i64 0, .int .i64 0, .int .i64 0, .bool false, .int .i64 0, .int .u64 0, .bool false, .bool false, .string ⟨#[]⟩, .string ⟨#[]⟩, .int .i64 0, .int .i64 0, .int .i64 0, .int .i64 0, .bool false, .int .i64 0, .int .u64 0, .bool false, .bool false, .string ⟨#[]⟩, .string ⟨#[]⟩, .int .i64 0, .int .i64 0, .int .i64 0, .int .i64 0, .bool false, .int .i64 0, .int .u64 0, .bool false]), (some [.b, .s, .s, .i .i64, .i .i64, .i .i64, .i .i64, .b, .i .i64, .i .u64, .b, .b, .s, .s, .i .i64, .i .i64, .i .i64, .i .i64, .b, .i .i64, .i .u64, .b, .b, .s, .s, .i .i64, .i .i64, .i .i64, .i .i64, .b, .i .i64, .i .u64, .b])⟩ where
  ptr := fun h => by cases h
  ks := fun l h => by cases h; exact ⟨by kernel_rfl, by kernel_rfl⟩
  agg := by kernel_rfl
  sz := by kernel_rfl
  ze := fun z h => by cases h; exact ⟨by kernel_rfl, by kernel_rfl⟩
  int := fun k h => by cases h
  str := fun h => by cases h
  bool := fun h => by cases h
  sl := fun e s b z h => by cases h
  st := fun pl h => by cases h; kernel_rfl
  ar := fun n s e h => by cases h
  mp := fun K V h => by cases h
  fl := fun pl h => by cases h; kernel_rfl
set_option maxRecDepth 100000 in
theorem ti_33 : TIok Tryd.prog 33 ⟨.st [(0, 1, true), (1, 1, true), (2, 1, true), (3, 1, true), (4, 1, true)], true, 5, (some [.bool false, .int .i64 0, .string ⟨#[]⟩, .int .i64 0, .int .i64 0]), (some [.b, .i .i64, .s, .i .i64, .i .i64])⟩ where
  ptr := fun h => by cases h
  ks := fun l h => by cases h; exact ⟨by kernel_rfl, by kernel_rfl⟩
  agg := by kernel_rfl
  sz := by kernel_rfl
  ze := fun z h => by cases h; exact ⟨by kernel_rfl, by kernel_rfl⟩
  int := fun k h => by cases h
  str := fun h => by cases h
  bool := fun h => by cases h
  sl := fun e s b z h => by cases h
  st := fun pl h => by cases h; kernel_rfl
  ar := fun n s e h => by cases h
  mp := fun K V h => by cases h
  fl := fun pl h => by cases h; kernel_rfl
set_option maxRecDepth 100000 in
theorem ti_34 : TIok Tryd.prog 34 ⟨.sl 173 3 32 [.int .u32 0, .int .u32 0, .slice none 0 0], false, 1, (some [.slice none 0 0]), none⟩ where
  ptr := fun h => by cases h
  ks := fun l h => by cases h
  agg := by kernel_rfl
  sz := by kernel_rfl
  ze := fun z h => by cases h; exact ⟨by kernel_rfl, by kernel_rfl⟩
  int := fun k h => by cases h
  str := fun h => by cases h
  bool := fun h => by cases h
  sl := fun e s b z h => by cases h; exact ⟨by kernel_rfl, by kernel_rfl, by kernel_rfl, by decide, by kernel_rfl⟩
  st := fun pl h => by cases h
  ar := fun n s e h => by cases h
  mp := fun K V h => by cases h
  fl := fun pl h => by cases h
set_option maxRecDepth 100000 in
theorem ti_36 : TIok Tryd.prog 36 ⟨.st [(0, 1, true), (1, 1, true), (2, 33, false), (35, 5, false), (40, 1, true)], true, 41, (some [.string ⟨#[]⟩, .string ⟨#[]⟩, .bool false, .string ⟨#[]⟩, .string ⟨#[]⟩, .int .i64 0, .int .i64 0, .int .i64 0, .int .i64 0, .bool false, .int .i64 0, .int .u64 0, .bool false, .bool false, .string ⟨#[]⟩, .string ⟨#[]⟩, .int .i64 0, .int .i64 0, .int .i64 0, .int .i64 0, .bool false, .int .i64 0, .int .u64 0, .bool false, .bool false, .string ⟨#[]⟩, .string ⟨#[]⟩, .int .i64 0, .int .i64 0, .int .i64 0, .int .i64 0, .bool false, .int .i64 0, .int .u64 0, .bool false, .bool false, .int .i64 0, .string ⟨#[]⟩, .int .i64 0, .int .i64 0, .slice none 0 0]), none⟩ where
  ptr := fun h => by cases h
  ks := fun l h => by cases h
  agg := by kernel_rfl
  sz := by kernel_rfl
  ze := fun z h => by cases h; exact ⟨by kernel_rfl, by kernel_rfl⟩
  int := fun k h => by cases h
  str := fun h => by cases h
  bool := fun h => by cases h
  sl := fun e s b z h => by cases h
  st := fun pl h => by cases h; kernel_rfl
  ar := fun n s e h => by cases h
  mp := fun K V h => by cases h
  fl := fun pl h => by cases h; kernel_rfl
set_option maxRecDepth 100000 in
theorem ti_37 : TIok Tryd.prog 37 ⟨.sl 36 41 416 [.string ⟨#[]⟩, .string ⟨#[]⟩, .bool false, .string ⟨#[]⟩, .string ⟨#[]⟩, .int .i64 0, .int .i64 0, .int .i64 0, .int .i64 0, .bool false, .int .i64 0, .int .u64 0, .bool false, .bool false, .string ⟨#[]⟩, .string ⟨#[]⟩, .int .i64 0, .int .i64 0, .int .i64 0, .int .i64 0, .bool false, .int .i64 0, .int .u64 0, .bool false, .bool false, .string ⟨#[]⟩, .string ⟨#[]⟩, .int .i64 0, .int .i64 0, .int .i64 0, .int .i64 0, .bool false, .int .i64 0, .int .u64 0, .bool false, .bool false, .int .i64 0, .string ⟨#[]⟩, .int .i64 0, .int .i64 0, .slice none 0 0], false, 1, (some [.slice none 0 0]), none⟩ where
  ptr := fun h => by cases h
  ks := fun l h => by cases h
  agg := by kernel_rfl
  sz := by kernel_rfl
  ze := fun z h => by cases h; exact ⟨by kernel_rfl, by kernel_rfl⟩
  int := fun k h => by cases h
  str := fun h => by cases h
  bool := fun h => by cases h
  sl := fun e s b z h => by cases h; exact ⟨by kernel_rfl, by kernel_rfl, by kernel_rfl, by decide, by kernel_rfl⟩
  st := fun pl h => by cases h
  ar := fun n s e h => by cases h
  mp := fun K V h => by cases h
  fl := fun pl h => by cases h
set_option maxRecDepth 100000 in
theorem ti_38 : TIok Tryd.prog 38 ⟨.int .i64, false, 1, (some [.int .i64 0]), none⟩ where
  ptr := fun h => by cases h
  ks := fun l h => by cases h
  agg := by kernel_rfl
  sz := by kernel_rfl
  ze := fun z h => by cases h; exact ⟨by kernel_rfl, by kernel_rfl⟩
  int := fun k h => by cases h; kernel_rfl
  str := fun h => by cases h
  bool := fun h => by cases h
  sl := fun e s b z h => by cases h
  st := fun pl h => by cases h
  ar := fun n s e h => by cases h
  mp := fun K V h => by cases h
  fl := fun pl h => by cases h
set_option maxRecDepth 100000 in
theorem ti_45 : TIok Tryd.prog 45 ⟨.sl 55 2 32 [.string ⟨#[]⟩, .string ⟨#[]⟩], false, 1, (some [.slice none 0 0]), none⟩ where
  ptr := fun h => by cases h
  ks := fun l h => by cases h
  agg := by kernel_rfl
  sz := by kernel_rfl
  ze := fun z h => by cases h; exact ⟨by kernel_rfl, by kernel_rfl⟩
  int := fun k h => by cases h
  str := fun h => by cases h
  bool := fun h => by cases h
  sl := fun e s b z h => by cases h; exact ⟨by kernel_rfl, by kernel_rfl, by kernel_rfl, by decide, by kernel_rfl⟩
  st := fun pl h => by cases h
  ar := fun n s e h => by cases h
  mp := fun K V h => by cases h
  fl := fun pl h => by cases h
set_option maxRecDepth 100000 in
theorem ti_52 : TIok Tryd.prog 52 ⟨.sl 72 4 40 [.int .i64 0, .int .i64 0, .int .i64 0, .string ⟨#[]⟩], false, 1, (some [.slice none 0 0]), none⟩ where
  ptr := fun h => by cases h
  ks := fun l h => by cases h
  agg := by kernel_rfl
  sz := by kernel_rfl
  ze := fun z h => by cases h; exact ⟨by kernel_rfl, by kernel_rfl⟩
  int := fun k h => by cases h
  str := fun h => by cases h
  bool := fun h => by cases h
  sl := fun e s b z h => by cases h; exact ⟨by kernel_rfl, by kernel_rfl, by kernel_rfl, by decide, by kernel_rfl⟩
  st := fun pl h => by cases h
  ar := fun n s e h => by cases h
  mp := fun K V h => by cases h
  fl := fun pl h => by cases h
set_option maxRecDepth 100000 in
theorem ti_55 : TIok Tryd.prog 55 ⟨.st [(0, 1, true), (1, 1, true)], true, 2, (some [.string ⟨#[]⟩, .string ⟨#[]⟩]), (some [.s, .s])⟩ where
  ptr := fun h => by cases h
  ks := fun l h => by cases h; exact ⟨by kernel_rfl, by kernel_rfl⟩
  agg := by kernel_rfl
  sz := by kernel_rfl
  ze := fun z h => by cases h; exact ⟨by kernel_rfl, by kernel_rfl⟩
  int := fun k h => by cases h
  str := fun h => by cases h
  bool := fun h => by cases h
  sl := fun e s b z h => by cases h
  st := fun pl h => by cases h; kernel_rfl
  ar := fun n s e h => by cases h
  mp := fun K V h => by cases h
  fl := fun pl h => by cases h; kernel_rfl
set_option maxRecDepth 100000 in
theorem ti_58 : TIok Tryd.prog 58 ⟨.int .u32, false, 1, (some [.int .u32 0]), none⟩ where
  ptr := fun h => by cases h
  ks := fun l h => by cases h
  agg := by kernel_rfl
  sz := by kernel_rfl
  ze := fun z h => by cases h; exact ⟨by kernel_rfl, by kernel_rfl⟩
  int := fun k h => by cases h; kernel_rfl
  str := fun h => by cases h
  bool := fun h => by cases h
  sl := fun e s b z h => by cases h
  st := fun pl h => by cases h
  ar := fun n s e h => by cases h
  mp := fun K V h => by cases h
  fl := fun pl h => by cases h
set_option maxRecDepth 100000 in
theorem ti_69 : TIok Tryd.prog 69 ⟨.st [(0, 1, true), (1, 1, true)], true, 2, (some [.int .u32 0, .int .i64 0]), (some [.i .u32, .i .i64])⟩ where
  ptr := fun h => by cases h
  ks := fun l h => by cases h; exact ⟨by kernel_rfl, by kernel_rfl⟩
  agg := by kernel_rfl
  sz := by kernel_rfl
  ze := fun z h => by cases h; exact ⟨by kernel_rfl, by kernel_rfl⟩
  int := fun k h => by cases h
  str := fun h => by cases h
  bool := fun h => by cases h
  sl := fun e s b z h => by cases h
  st := fun pl h => by cases h; kernel_rfl
  ar := fun n s e h => by cases h
  mp := fun K V h => by cases h
  fl := fun pl h => by cases h; kernel_rfl
set_option maxRecDepth 100000 in
theorem ti_72 : TIok Tryd.prog 72 ⟨.st [(0, 1, true), (1, 1, true), (2, 1, true), (3, 1, true)], true, 4, (some [.int .i64 0, .int .i64 0, .int .i64 0, .string ⟨#[]⟩]), (some [.i .i64, .i .i64, .i .i64, .s])⟩ where
  ptr := fun h => by cases h
  ks := fun l h => by cases h; exact ⟨by kernel_rfl, by kernel_rfl⟩
  agg := by kernel_rfl
  sz := by kernel_rfl
  ze := fun z h => by cases h; exact ⟨by kernel_rfl, by kernel_rfl⟩
  int := fun k h => by cases h
  str := fun h => by cases h
  bool := fun h => by cases h
  sl := fun e s b z h => by cases h
  st := fun pl h => by cases h; kernel_rfl
  ar := fun n s e h => by cases h
  mp := fun K V h => by cases h
  fl := fun pl h => by cases h; kernel_rfl
set_option maxRecDepth 100000 in
theorem ti_78 : TIok Tryd.prog 78 ⟨.sl 82 5 48 [.int .i64 0, .string ⟨#[]⟩, .int .i64 0, .int .u32 0, .int .i64 0], false, 1, (some [.slice none 0 0]), none⟩ where
  ptr := fun h => by cases h
  ks := fun l h => by cases h
  agg := by kernel_rfl
  sz := by kernel_rfl
  ze := fun z h => by cases h; exact ⟨by kernel_rfl, by kernel_rfl⟩
  int := fun k h => by cases h
  str := fun h => by cases h
  bool := fun h => by cases h
  sl := fun e s b z h => by cases h; exact ⟨by kernel_rfl, by kernel_rfl, by kernel_rfl, by decide, by kernel_rfl⟩
  st := fun pl h => by cases h
  ar := fun n s e h => by cases h
  mp := fun K V h => by cases h
  fl := fun pl h => by cases h
set_option maxRecDepth 100000 in
theorem ti_82 : TIok Tryd.prog 82 ⟨.st [(0, 1, true), (1, 1, true), (2, 1, true), (3, 2, false)], true, 5, (some [.int .i64 0, .string ⟨#[]⟩, .int .i64 0, .int .u32 0, .int .i64 0]), (some [.i .i64, .s, .i .i64, .i .u32, .i .i64])⟩ where
  ptr := fun h => by cases h
  ks := fun l h => by cases h; exact ⟨by kernel_rfl, by kernel_rfl⟩
  agg := by kernel_rfl
  sz := by kernel_rfl
  ze := fun z h => by cases h; exact ⟨by kernel_rfl, by kernel_rfl⟩
  int := fun k h => by cases h
  str := fun h => by cases h
  bool := fun h => by cases h
  sl := fun e s b z h => by cases h
  st := fun pl h => by cases h; kernel_rfl
  ar := fun n s e h => by cases h
  mp := fun K V h => by cases h
  fl := fun pl h => by cases h; kernel_rfl
set_option maxRecDepth 100000 in
theorem ti_87 : TIok Tryd.prog 87 ⟨.sl 9 1 16 [.string ⟨#[]⟩], false, 1, (some [.slice none 0 0]), none⟩ where
  ptr := fun h => by cases h
  ks := fun l h => by cases h
  agg := by kernel_rfl
  sz := by kernel_rfl
  ze := fun z h => by cases h; exact ⟨by kernel_rfl, by kernel_rfl⟩
  int := fun k h => by cases h
  str := fun h => by cases h
  bool := fun h => by cases h
  sl := fun e s b z h => by cases h; exact ⟨by kernel_rfl, by kernel_rfl, by kernel_rfl, by decide, by kernel_rfl⟩
  st := fun pl h => by cases h
  ar := fun n s e h => by cases h
  mp := fun K V h => by cases h
  fl := fun pl h => by cases h
set_option maxRecDepth 100000 in
theorem ti_95 : TIok Tryd.prog 95 ⟨.sl 101 5 80 [.string ⟨#[]⟩, .string ⟨#[]⟩, .string ⟨#[]⟩, .int .i64 0, .slice none 0 0], false, 1, (some [.slice none 0 0]), none⟩ where
  ptr := fun h => by cases h
  ks := fun l h => by cases h
  agg := by kernel_rfl
  sz := by kernel_rfl
  ze := fun z h => by cases h; exact ⟨by kernel_rfl, by kernel_rfl⟩
  int := fun k h => by cases h
  str := fun h => by cases h
  bool := fun h => by cases h
  sl := fun e s b z h => by cases h; exact ⟨by kernel_rfl, by kernel_rfl, by kernel_rfl, by decide, by kernel_rfl⟩
  st := fun pl h => by cases h
  ar := fun n s e h => by cases h
  mp := fun K V h => by cases h
  fl := fun pl h => by cases h
set_option maxRecDepth 100000 in
theorem ti_97 : TIok Tryd.prog 97 ⟨.st [(0, 1, true), (1, 1, true), (2, 1, true)], true, 3, (some [.string ⟨#[]⟩, .int .i64 0, .slice none 0 0]), none⟩ where
  ptr := fun h => by cases h
  ks := fun l h => by cases h
  agg := by kernel_rfl
  sz := by kernel_rfl
  ze := fun z h => by cases h; exact ⟨by kernel_rfl, by kernel_rfl⟩
  int := fun k h => by cases h
  str := fun h => by cases h
  bool := fun h => by cases h
  sl := fun e s b z h => by cases h
  st := fun pl h => by cases h; kernel_rfl
  ar := fun n s e h => by cases h
  mp := fun K V h => by cases h
  fl := fun pl h => by cases h; kernel_rfl
set_option maxRecDepth 100000 in
theorem ti_99 : TIok Tryd.prog 99 ⟨.sl 69 2 16 [.int .u32 0, .int .i64 0], false, 1, (some [.slice none 0 0]), none⟩ where
  ptr := fun h => by cases h
  ks := fun l h => by cases h
  agg := by kernel_rfl
  sz := by kernel_rfl
  ze := fun z h => by cases h; exact ⟨by kernel_rfl, by kernel_rfl⟩
  int := fun k h => by cases h
  str := fun h => by cases h
  bool := fun h => by cases h
  sl := fun e s b z h => by cases h; exact ⟨by kernel_rfl, by kernel_rfl, by kernel_rfl, by decide, by kernel_rfl⟩
  st := fun pl h => by cases h
  ar := fun n s e h => by cases h
  mp := fun K V h => by cases h
  fl := fun pl h => by cases h
set_option maxRecDepth 100000 in
theorem ti_101 : TIok Tryd.prog 101 ⟨.st [(0, 1, true), (1, 1, true), (2, 1, true), (3, 1, true), (4, 1, true)], true, 5, (some [.string ⟨#[]⟩, .string ⟨#[]⟩, .string ⟨#[]⟩, .int .i64 0, .slice none 0 0]), none⟩ where
  ptr := fun h => by cases h
  ks := fun l h => by cases h
  agg := by kernel_rfl
  sz := by kernel_rfl
  ze := fun z h => by cases h; exact ⟨by kernel_rfl, by kernel_rfl⟩
  int := fun k h => by cases h
  str := fun h => by cases h
  bool := fun h => by cases h
  sl := fun e s b z h => by cases h
  st := fun pl h => by cases h; kernel_rfl
  ar := fun n s e h => by cases h
  mp := fun K V h => by cases h
  fl := fun pl h => by cases h; kernel_rfl
set_option maxRecDepth 100000 in
theorem ti_114 : TIok Tryd.prog 114 ⟨.sl 3 1 8 [.int .i64 0], false, 1, (some [.slice none 0 0]), none⟩ where
  ptr := fun h => by cases h
  ks := fun l h => by cases h
  agg := by kernel_rfl
  sz := by kernel_rfl
  ze := fun z h => by cases h; exact ⟨by kernel_rfl, by kernel_rfl⟩
  int := fun k h => by cases h
  str := fun h => by cases h
  bool := fun h => by cases h
  sl := fun e s b z h => by cases h; exact ⟨by kernel_rfl, by kernel_rfl, by kernel_rfl, by decide, by kernel_rfl⟩
  st := fun pl h => by cases h
  ar := fun n s e h => by cases h
  mp := fun K V h => by cases h
  fl := fun pl h => by cases h
set_option maxRecDepth 100000 in
theorem ti_116 : TIok Tryd.prog 116 ⟨.ar 5 1 3, true, 5, (some [.int .i64 0, .int .i64 0, .int .i64 0, .int .i64 0, .int .i64 0]), none⟩ where
  ptr := fun h => by cases h
  ks := fun l h => by cases h
  agg := by kernel_rfl
  sz := by kernel_rfl
  ze := fun z h => by cases h; exact ⟨by kernel_rfl, by kernel_rfl⟩
  int := fun k h => by cases h
  str := fun h => by cases h
  bool := fun h => by cases h
  sl := fun e s b z h => by cases h
  st := fun pl h => by cases h
  ar := fun n s e h => by cases h; exact ⟨by kernel_rfl, by kernel_rfl, by kernel_rfl⟩
  mp := fun K V h => by cases h
  fl := fun pl h => by cases h
set_option maxRecDepth 100000 in
theorem ti_128 : TIok Tryd.prog 128 ⟨.int .u64, false, 1, (some [.int .u64 0]), none⟩ where
  ptr := fun h => by cases h
  ks := fun l h => by cases h
  agg := by kernel_rfl
  sz := by kernel_rfl
  ze := fun z h => by cases h; exact ⟨by kernel_rfl, by kernel_rfl⟩
  int := fun k h => by cases h; kernel_rfl
  str := fun h => by cases h
  bool := fun h => by cases h
  sl := fun e s b z h => by cases h
  st := fun pl h => by cases h
  ar := fun n s e h => by cases h
  mp := fun K V h => by cases h
  fl := fun pl h => by cases h
set_option maxRecDepth 100000 in
theorem ti_133 : TIok Tryd.prog 133 ⟨.ar 11 1 9, true, 11, (some [.string ⟨#[]⟩, .string ⟨#[]⟩, .string ⟨#[]⟩, .string ⟨#[]⟩, .string ⟨#[]⟩, .string ⟨#[]⟩, .string ⟨#[]⟩, .string ⟨#[]⟩, .string ⟨#[]⟩, .string ⟨#[]⟩, .string ⟨#[]⟩]), none⟩ where
  ptr := fun h => by cases h
  ks := fun l h => by cases h
  agg := by kernel_rfl
  sz := by kernel_rfl
  ze := fun z h => by cases h; exact ⟨by kernel_rfl, by kernel_rfl⟩
  int := fun k h => by cases h
  str := fun h => by cases h
  bool := fun h => by cases h
  sl := fun e s b z h => by cases h
  st := fun pl h => by cases h
  ar := fun n s e h => by cases h; exact ⟨by kernel_rfl, by kernel_rfl, by kernel_rfl⟩
  mp := fun K V h => by cases h
  fl := fun pl h => by cases h
set_option maxRecDepth 100000 in
theorem ti_137 : TIok Tryd.prog 137 ⟨.ptr, false, 1, (some [.pointer none]), none⟩ where
  ptr := fun h => ⟨140, by kernel_rfl⟩
  ks := fun l h => by cases h
  agg := by kernel_rfl
  sz := by kernel_rfl
  ze := fun z h => by cases h; exact ⟨by kernel_rfl, by kernel_rfl⟩
  int := fun k h => by cases h
  str := fun h => by cases h
  bool := fun h => by cases h
  sl := fun e s b z h => by cases h
  st := fun pl h => by cases h
  ar := fun n s e h => by cases h
  mp := fun K V h => by cases h
  fl := fun pl h => by cases h
set_option maxRecDepth 100000 in
theorem ti_138 : TIok Tryd.prog 138 ⟨.sl 5 1 1 [.int .u8 0], false, 1, (some [.slice none 0 0]), none⟩ where
  ptr := fun h => by cases h
  ks := fun l h => by cases h
  agg := by kernel_rfl
  sz := by kernel_rfl
  ze := fun z h => by cases h; exact ⟨by kernel_rfl, by kernel_rfl⟩
  int := fun k h => by cases h
  str := fun h => by cases h
  bool := fun h => by cases h
  sl := fun e s b z h => by cases h; exact ⟨by kernel_rfl, by kernel_rfl, by kernel_rfl, by decide, by kernel_rfl⟩
  st := fun pl h => by cases h
  ar := fun n s e h => by cases h
  mp := fun K V h => by cases h
  fl := fun pl h => by cases h
set_option maxRecDepth 100000 in
theorem ti_140 : TIok Tryd.prog 140 ⟨.st [(0, 1, true), (1, 1, true)], true, 2, (some [.pointer none, .slice none 0 0]), none⟩ where
  ptr := fun h => by cases h
  ks := fun l h => by cases h
  agg := by kernel_rfl
  sz := by kernel_rfl
  ze := fun z h => by cases h; exact ⟨by kernel_rfl, by kernel_rfl⟩
  int := fun k h => by cases h
  str := fun h => by cases h
  bool := fun h => by cases h
  sl := fun e s b z h => by cases h
  st := fun pl h => by cases h; kernel_rfl
  ar := fun n s e h => by cases h
  mp := fun K V h => by cases h
  fl := fun pl h => by cases h; kernel_rfl
set_option maxRecDepth 100000 in
theorem ti_158 : TIok Tryd.prog 158 ⟨.ar 2 3 97, true, 6, (some [.string ⟨#[]⟩, .int .i64 0, .slice none 0 0, .string ⟨#[]⟩, .int .i64 0, .slice none 0 0]), none⟩ where
  ptr := fun h => by cases h
  ks := fun l h => by cases h
  agg := by kernel_rfl
  sz := by kernel_rfl
  ze := fun z h => by cases h; exact ⟨by kernel_rfl, by kernel_rfl⟩
  int := fun k h => by cases h
  str := fun h => by cases h
  bool := fun h => by cases h
  sl := fun e s b z h => by cases h
  st := fun pl h => by cases h
  ar := fun n s e h => by cases h; exact ⟨by kernel_rfl, by kernel_rfl, by kernel_rfl⟩
  mp := fun K V h => by cases h
  fl := fun pl h => by cases h
set_option maxRecDepth 100000 in
theorem ti_169 : TIok Tryd.prog 169 ⟨.ar 3 11 26, true, 33, (some [.bool false, .string ⟨#[]⟩, .string ⟨#[]⟩, .int .i64 0, .int .i64 0, .int .i64 0, .int .i64 0, .bool false, .int .i64 0, .int .u64 0, .bool false, .bool false, .string ⟨#[]⟩, .string ⟨#[]⟩, .int .i64 0, .int .i64 0, .int .i64 0, .int .i64 0, .bool false, .int .i64 0, .int .u64 0, .bool false, .bool false, .string ⟨#[]⟩, .string ⟨#[]⟩, .int .i64 0, .int .i64 0, .int .i64 0, .int .i64 0, .bool false, .int .i64 0, .int .u64 0, .bool false]), none⟩ where
  ptr := fun h => by cases h
  ks := fun l h => by cases h
  agg := by kernel_rfl
  sz := by kernel_rfl
  ze := fun z h => by cases h; exact ⟨by kernel_rfl, by kernel_rfl⟩
  int := fun k h => by cases h
  str := fun h => by cases h
  bool := fun h => by cases h
  sl := fun e s b z h => by cases h
  st := fun pl h => by cases h
  ar := fun n s e h => by cases h; exact ⟨by kernel_rfl, by kernel_rfl, by kernel_rfl⟩
  mp := fun K V h => by cases h
  fl := fun pl h => by cases h
set_option maxRecDepth 100000 in
theorem ti_173 : TIok Tryd.prog 173 ⟨.st [(0, 1, true), (1, 1, true), (2, 1, true)], true, 3, (some [.int .u32 0, .int .u32 0, .slice none 0 0]), none⟩ where
  ptr := fun h => by cases h
  ks := fun l h => by cases h
  agg := by kernel_rfl
  sz := by kernel_rfl
  ze := fun z h => by cases h; exact ⟨by kernel_rfl, by kernel_rfl⟩
  int := fun k h => by cases h
  str := fun h => by cases h
  bool := fun h => by cases h
  sl := fun e s b z h => by cases h
  st := fun pl h => by cases h; kernel_rfl
  ar := fun n s e h => by cases h
  mp := fun K V h => by cases h
  fl := fun pl h => by cases h; kernel_rfl
set_option maxRecDepth 100000 in
theorem ti_178 : TIok Tryd.prog 178 ⟨.ptr, false, 1, (some [.pointer none]), none⟩ where
  ptr := fun h => ⟨5, by kernel_rfl⟩
  ks := fun l h => by cases h
  agg := by kernel_rfl
  sz := by kernel_rfl
  ze := fun z h => by cases h; exact ⟨by kernel_rfl, by kernel_rfl⟩
  int := fun k h => by cases h
  str := fun h => by cases h
  bool := fun h => by cases h
  sl := fun e s b z h => by cases h
  st := fun pl h => by cases h
  ar := fun n s e h => by cases h
  mp := fun K V h => by cases h
  fl := fun pl h => by cases h
set_option maxRecDepth 100000 in
theorem ti_187 : TIok Tryd.prog 187 ⟨.ar 2 1 9, true, 2, (some [.string ⟨#[]⟩, .string ⟨#[]⟩]), none⟩ where
  ptr := fun h => by cases h
  ks := fun l h => by cases h
  agg := by kernel_rfl
  sz := by kernel_rfl
  ze := fun z h => by cases h; exact ⟨by kernel_rfl, by kernel_rfl⟩
  int := fun k h => by cases h
  str := fun h => by cases h
  bool := fun h => by cases h
  sl := fun e s b z h => by cases h
  st := fun pl h => by cases h
  ar := fun n s e h => by cases h; exact ⟨by kernel_rfl, by kernel_rfl, by kernel_rfl⟩
  mp := fun K V h => by cases h
  fl := fun pl h => by cases h
set_option maxRecDepth 100000 in
theorem ti_195 : TIok Tryd.prog 195 ⟨.other, false, 1, (some [.pointer none]), none⟩ where
  ptr := fun h => by cases h
  ks := fun l h => by cases h
  agg := by kernel_rfl
  sz := by kernel_rfl
  ze := fun z h => by cases h; exact ⟨by kernel_rfl, by kernel_rfl⟩
  int := fun k h => by cases h
  str := fun h => by cases h
  bool := fun h => by cases h
  sl := fun e s b z h => by cases h
  st := fun pl h => by cases h
  ar := fun n s e h => by cases h
  mp := fun K V h => by cases h
  fl := fun pl h => by cases h
set_option maxRecDepth 100000 in
theorem ti_200 : TIok Tryd.prog 200 ⟨.int .i64, false, 1, (some [.int .i64 0]), none⟩ where
  ptr := fun h => by cases h
  ks := fun l h => by cases h
  agg := by kernel_rfl
  sz := by kernel_rfl
  ze := fun z h => by cases h; exact ⟨by kernel_rfl, by kernel_rfl⟩
  int := fun k h => by cases h; kernel_rfl
  str := fun h => by cases h
  bool := fun h => by cases h
  sl := fun e s b z h => by cases h
  st := fun pl h => by cases h
  ar := fun n s e h => by cases h
  mp := fun K V h => by cases h
  fl := fun pl h => by cases h
set_option maxRecDepth 100000 in
theorem ti_216 : TIok Tryd.prog 216 ⟨.ar 24 1 5, true, 24, (some [.int .u8 0, .int .u8 0, .int .u8 0, .int .u8 0, .int .u8 0, .int .u8 0, .int .u8 0, .int .u8 0, .int .u8 0, .int .u8 0, .int .u8 0, .int .u8 0, .int .u8 0, .int .u8 0, .int .u8 0, .int .u8 0, .int .u8 0, .int .u8 0, .int .u8 0, .int .u8 0, .int .u8 0, .int .u8 0, .int .u8 0, .int .u8 0]), none⟩ where
  ptr := fun h => by cases h
  ks := fun l h => by cases h
  agg := by kernel_rfl
  sz := by kernel_rfl
  ze := fun z h => by cases h; exact ⟨by kernel_rfl, by kernel_rfl⟩
  int := fun k h => by cases h
  str := fun h => by cases h
  bool := fun h => by cases h
  sl := fun e s b z h => by cases h
  st := fun pl h => by cases h
  ar := fun n s e h => by cases h; exact ⟨by kernel_rfl, by kernel_rfl, by kernel_rfl⟩
  mp := fun K V h => by cases h
  fl := fun pl h => by cases h
set_option maxRecDepth 100000 in
theorem ti_220 : TIok Tryd.prog 220 ⟨.int .u64, false, 1, (some [.int .u64 0]), none⟩ where
  ptr := fun h => by cases h
  ks := fun l h => by cases h
  agg := by kernel_rfl
  sz := by kernel_rfl
  ze := fun z h => by cases h; exact ⟨by kernel_rfl, by kernel_rfl⟩
  int := fun k h => by cases h; kernel_rfl
  str := fun h => by cases h
  bool := fun h => by cases h
  sl := fun e s b z h => by cases h
  st := fun pl h => by cases h
  ar := fun n s e h => by cases h
  mp := fun K V h => by cases h
  fl := fun pl h => by cases h
set_option maxRecDepth 100000 in
theorem ti_224 : TIok Tryd.prog 224 ⟨.ptr, false, 1, (some [.pointer none]), none⟩ where
  ptr := fun h => ⟨3, by kernel_rfl⟩
  ks := fun l h => by cases h
  agg := by kernel_rfl
  sz := by kernel_rfl
  ze := fun z h => by cases h; exact ⟨by kernel_rfl, by kernel_rfl⟩
  int := fun k h => by cases h
  str := fun h => by cases h
  bool := fun h => by cases h
  sl := fun e s b z h => by cases h
  st := fun pl h => by cases h
  ar := fun n s e h => by cases h
  mp := fun K V h => by cases h
  fl := fun pl h => by cases h
set_option maxRecDepth 100000 in
theorem ti_226 : TIok Tryd.prog 226 ⟨.ar 8 1 58, true, 8, (some [.int .u32 0, .int .u32 0, .int .u32 0, .int .u32 0, .int .u32 0, .int .u32 0, .int .u32 0, .int .u32 0]), none⟩ where
  ptr := fun h => by cases h
  ks := fun l h => by cases h
  agg := by kernel_rfl
  sz := by kernel_rfl
  ze := fun z h => by cases h; exact ⟨by kernel_rfl, by kernel_rfl⟩
  int := fun k h => by cases h
  str := fun h => by cases h
  bool := fun h => by cases h
  sl := fun e s b z h => by cases h
  st := fun pl h => by cases h
  ar := fun n s e h => by cases h; exact ⟨by kernel_rfl, by kernel_rfl, by kernel_rfl⟩
  mp := fun K V h => by cases h
  fl := fun pl h => by cases h
set_option maxRecDepth 100000 in
theorem ti_229 : TIok Tryd.prog 229 ⟨.ar 20 1 22, true, 20, (some [.int .u64 0, .int .u64 0, .int .u64 0, .int .u64 0, .int .u64 0, .int .u64 0, .int .u64 0, .int .u64 0, .int .u64 0, .int .u64 0, .int .u64 0, .int .u64 0, .int .u64 0, .int .u64 0, .int .u64 0, .int .u64 0, .int .u64 0, .int .u64 0, .int .u64 0, .int .u64 0]), none⟩ where
  ptr := fun h => by cases h
  ks := fun l h => by cases h
  agg := by kernel_rfl
  sz := by kernel_rfl
  ze := fun z h => by cases h; exact ⟨by kernel_rfl, by kernel_rfl⟩
  int := fun k h => by cases h
  str := fun h => by cases h
  bool := fun h => by cases h
  sl := fun e s b z h => by cases h
  st := fun pl h => by cases h
  ar := fun n s e h => by cases h; exact ⟨by kernel_rfl, by kernel_rfl, by kernel_rfl⟩
  mp := fun K V h => by cases h
  fl := fun pl h => by cases h
set_option maxRecDepth 100000 in
theorem ti_230 : TIok Tryd.prog 230 ⟨.ar 65 1 5, true, 65, (some [.int .u8 0, .int .u8 0, .int .u8 0, .int .u8 0, .int .u8 0, .int .u8 0, .int .u8 0, .int .u8 0, .int .u8 0, .int .u8 0, .int .u8 0, .int .u8 0, .int .u8 0, .int .u8 0, .int .u8 0, .int .u8 0, .int .u8 0, .int .u8 0, .int .u8 0, .int .u8 0, .int .u8 0, .int .u8 0, .int .u8 0, .int .u8 0, .int .u8 0, .int .u8 0, .int .u8 0, .int .u8 0, .int .u8 0, .int .u8 0, .int .u8 0, .int .u8 0, .int .u8 0, .int .u8 0, .int .u8 0, .int .u8 0, .int .u8 0, .int .u8 0, .int .u8 0, .int .u8 0, .int .u8 0, .int .u8 0, .int .u8 0, .int .u8 0, .int .u8 0, .int .u8 0, .int .u8 0, .int .u8 0, .int .u8 0, .int .u8 0, .int .u8 0, .int .u8 0, .int .u8 0, .int .u8 0, .int .u8 0, .int .u8 0, .int .u8 0, .int .u8 0, .int .u8 0, .int .u8 0, .int .u8 0, .int .u8 0, .int .u8 0, .int .u8 0, .int .u8 0]), none⟩ where
  ptr := fun h => by cases h
  ks := fun l h => by cases h
  agg := by kernel_rfl
  sz := by kernel_rfl
  ze := fun z h => by cases h; exact ⟨by kernel_rfl, by kernel_rfl⟩
  int := fun k h => by cases h
  str := fun h => by cases h
  bool := fun h => by cases h
  sl := fun e s b z h => by cases h
  st := fun pl h => by cases h
  ar := fun n s e h => by cases h; exact ⟨by kernel_rfl, by kernel_rfl, by kernel_rfl⟩
  mp := fun K V h => by cases h
  fl := fun pl h => by cases h
set_option maxRecDepth 100000 in
theorem ti_234 : TIok Tryd.prog 234 ⟨.ar 64 1 58, true, 64, (some [.int .u32 0, .int .u32 0, .int .u32 0, .int .u32 0, .int .u32 0, .int .u32 0, .int .u32 0, .int .u32 0, .int .u32 0, .int .u32 0, .int .u32 0, .int .u32 0, .int .u32 0, .int .u32 0, .int .u32 0, .int .u32 0, .int .u32 0, .int .u32 0, .int .u32 0, .int .u32 0, .int .u32 0, .int .u32 0, .int .u32 0, .int .u32 0, .int .u32 0, .int .u32 0, .int .u32 0, .int .u32 0, .int .u32 0, .int .u32 0, .int .u32 0, .int .u32 0, .int .u32 0, .int .u32 0, .int .u32 0, .int .u32 0, .int .u32 0, .int .u32 0, .int .u32 0, .int .u32 0, .int .u32 0, .int .u32 0, .int .u32 0, .int .u32 0, .int .u32 0, .int .u32 0, .int .u32 0, .int .u32 0, .int .u32 0, .int .u32 0, .int .u32 0, .int .u32 0, .int .u32 0, .int .u32 0, .int .u32 0, .int .u32 0, .int .u32 0, .int .u32 0, .int .u32 0, .int .u32 0, .int .u32 0, .int .u32 0, .int .u32 0, .int .u32 0]), none⟩ where
  ptr := fun h => by cases h
  ks := fun l h => by cases h
  agg := by kernel_rfl
  sz := by kernel_rfl
  ze := fun z h => by cases h; exact ⟨by kernel_rfl, by kernel_rfl⟩
  int := fun k h => by cases h
  str := fun h => by cases h
  bool := fun h => by cases h
  sl := fun e s b z h => by cases h
  st := fun pl h => by cases h
  ar := fun n s e h => by cases h; exact ⟨by kernel_rfl, by kernel_rfl, by kernel_rfl⟩
  mp := fun K V h => by cases h
  fl := fun pl h => by cases h
set_option maxRecDepth 100000 in
theorem ti_238 : TIok Tryd.prog 238 ⟨.ar 256 1 5, true, 256, none, none⟩ where
  ptr := fun h => by cases h
  ks := fun l h => by cases h
  agg := by kernel_rfl
  sz := by kernel_rfl
  ze := fun z h => by cases h
  int := fun k h => by cases h
  str := fun h => by cases h
  bool := fun h => by cases h
  sl := fun e s b z h => by cases h
  st := fun pl h => by cases h
  ar := fun n s e h => by cases h; exact ⟨by kernel_rfl, by kernel_rfl, by kernel_rfl⟩
  mp := fun K V h => by cases h
  fl := fun pl h => by cases h
set_option maxRecDepth 100000 in
theorem ti_240 : TIok Tryd.prog 240 ⟨.st [(0, 1, true), (1, 1, true)], true, 2, (some [.int .u8 0, .int .u8 0]), (some [.i .u8, .i .u8])⟩ where
  ptr := fun h => by cases h
  ks := fun l h => by cases h; exact ⟨by kernel_rfl, by kernel_rfl⟩
  agg := by kernel_rfl
  sz := by kernel_rfl
  ze := fun z h => by cases h; exact ⟨by kernel_rfl, by kernel_rfl⟩
  int := fun k h => by cases h
  str := fun h => by cases h
  bool := fun h => by cases h
  sl := fun e s b z h => by cases h
  st := fun pl h => by cases h; kernel_rfl
  ar := fun n s e h => by cases h
  mp := fun K V h => by cases h
  fl := fun pl h => by cases h; kernel_rfl
set_option maxRecDepth 100000 in
theorem ti_241 : TIok Tryd.prog 241 ⟨.ar 16 2 240, true, 32, (some [.int .u8 0, .int .u8 0, .int .u8 0, .int .u8 0, .int .u8 0, .int .u8 0, .int .u8 0, .int .u8 0, .int .u8 0, .int .u8 0, .int .u8 0, .int .u8 0, .int .u8 0, .int .u8 0, .int .u8 0, .int .u8 0, .int .u8 0, .int .u8 0, .int .u8 0, .int .u8 0, .int .u8 0, .int .u8 0, .int .u8 0, .int .u8 0, .int .u8 0, .int .u8 0, .int .u8 0, .int .u8 0, .int .u8 0, .int .u8 0, .int .u8 0, .int .u8 0]), none⟩ where
  ptr := fun h => by cases h
  ks := fun l h => by cases h
  agg := by kernel_rfl
  sz := by kernel_rfl
  ze := fun z h => by cases h; exact ⟨by kernel_rfl, by kernel_rfl⟩
  int := fun k h => by cases h
  str := fun h => by cases h
  bool := fun h => by cases h
  sl := fun e s b z h => by cases h
  st := fun pl h => by cases h
  ar := fun n s e h => by cases h; exact ⟨by kernel_rfl, by kernel_rfl, by kernel_rfl⟩
  mp := fun K V h => by cases h
  fl := fun pl h => by cases h
set_option maxRecDepth 100000 in
theorem ti_242 : TIok Tryd.prog 242 ⟨.ar 32 1 5, true, 32, (some [.int .u8 0, .int .u8 0, .int .u8 0, .int .u8 0, .int .u8 0, .int .u8 0, .int .u8 0, .int .u8 0, .int .u8 0, .int .u8 0, .int .u8 0, .int .u8 0, .int .u8 0, .int .u8 0, .int .u8 0, .int .u8 0, .int .u8 0, .int .u8 0, .int .u8 0, .int .u8 0, .int .u8 0, .int .u8 0, .int .u8 0, .int .u8 0, .int .u8 0, .int .u8 0, .int .u8 0, .int .u8 0, .int .u8 0, .int .u8 0, .int .u8 0, .int .u8 0]), none⟩ where
  ptr := fun h => by cases h
  ks := fun l h => by cases h
  agg := by kernel_rfl
  sz := by kernel_rfl
  ze := fun z h => by cases h; exact ⟨by kernel_rfl, by kernel_rfl⟩
  int := fun k h => by cases h
  str := fun h => by cases h
  bool := fun h => by cases h
  sl := fun e s b z h => by cases h
  st := fun pl h => by cases h
  ar := fun n s e h => by cases h; exact ⟨by kernel_rfl, by kernel_rfl, by kernel_rfl⟩
  mp := fun K V h => by cases h
  fl := fun pl h => by cases h
set_option maxRecDepth 100000 in
theorem ti_243 : TIok Tryd.prog 243 ⟨.ar 64 1 5, true, 64, (some [.int .u8 0, .int .u8 0, .int .u8 0, .int .u8 0, .int .u8 0, .int .u8 0, .int .u8 0, .int .u8 0, .int .u8 0, .int .u8 0, .int .u8 0, .int .u8 0, .int .u8 0, .int .u8 0, .int .u8 0, .int .u8 0, .int .u8 0, .int .u8 0, .int .u8 0, .int .u8 0, .int .u8 0, .int .u8 0, .int .u8 0, .int .u8 0, .int .u8 0, .int .u8 0, .int .u8 0, .int .u8 0, .int .u8 0, .int .u8 0, .int .u8 0, .int .u8 0, .int .u8 0, .int .u8 0, .int .u8 0, .int .u8 0, .int .u8 0, .int .u8 0, .int .u8 0, .int .u8 0, .int .u8 0, .int .u8 0, .int .u8 0, .int .u8 0, .int .u8 0, .int .u8 0, .int .u8 0, .int .u8 0, .int .u8 0, .int .u8 0, .int .u8 0, .int .u8 0, .int .u8 0, .int .u8 0, .int .u8 0, .int .u8 0, .int .u8 0, .int .u8 0, .int .u8 0, .int .u8 0, .int .u8 0, .int .u8 0, .int .u8 0, .int .u8 0]), none⟩ where
  ptr := fun h => by cases h
  ks := fun l h => by cases h
  agg := by kernel_rfl
  sz := by kernel_rfl
  ze := fun z h => by cases h; exact ⟨by kernel_rfl, by kernel_rfl⟩
  int := fun k h => by cases h
  str := fun h => by cases h
  bool := fun h => by cases h
  sl := fun e s b z h => by cases h
  st := fun pl h => by cases h
  ar := fun n s e h => by cases h; exact ⟨by kernel_rfl, by kernel_rfl, by kernel_rfl⟩
  mp := fun K V h => by cases h
  fl := fun pl h => by cases h
def tabT : TT := (.node 97 ⟨.st [(0, 1, true), (1, 1, true), (2, 1, true)], true, 3, (some [.string ⟨#[]⟩, .int .i64 0, .slice none 0 0]), none⟩ (.node 34 ⟨.sl 173 3 32 [.int .u32 0, .int .u32 0, .slice none 0 0], false, 1, (some [.slice none 0 0]), none⟩ (.node 11 ⟨.str, false, 1, (some [.string ⟨#[]⟩]), none⟩ (.node 5 ⟨.int .u8, false, 1, (some [.int .u8 0]), none⟩ (.node 3 ⟨.int .i64, false, 1, (some [.int .i64 0]), none⟩ (.node 2 ⟨.int .i64, false, 1, (some [.int .i64 0]), none⟩ .leaf .leaf) (.node 4 ⟨.bool, false, 1, (some [.bool false]), none⟩ .leaf .leaf)) (.node 7 ⟨.st [(0, 1, true), (1, 1, true), (2, 1, true), (3, 1, true)], true, 4, (some [.int .i64 0, .int .i64 0, .bool false, .int .u8 0]), (some [.i .i64, .i .i64, .b, .i .u8])⟩ (.node 6 ⟨.int .u8, false, 1, (some [.int .u8 0]), none⟩ .leaf .leaf) (.node 9 ⟨.str, false, 1, (some [.string ⟨#[]⟩]), none⟩ .leaf .leaf))) (.node 26 ⟨.st [(0, 1, true), (1, 1, true), (2, 1, true), (3, 1, true), (4, 1, true), (5, 1, true), (6, 1, true), (7, 3, false), (10, 1, true)], true, 11, (some [.bool false, .string ⟨#[]⟩, .string ⟨#[]⟩, .int .i64 0, .int .i64 0, .int .i64 0, .int .i64 0, .bool false, .int .i64 0, .int .u64 0, .bool false]), (some [.b, .s, .s, .i .i64, .i .i64, .i .i64, .i .i64, .b, .i .i64, .i .u64, .b])⟩ (.node 22 ⟨.int .u64, false, 1, (some [.int .u64 0]), none⟩ (.node 21 ⟨.int .i32, false, 1, (some [.int .i32 0]), none⟩ .leaf .leaf) (.node 24 ⟨.st [(0, 1, true), (1, 1, true), (2, 1, true)], true, 3, (some [.bool false, .int .i64 0, .int .u64 0]), (some [.b, .i .i64, .i .u64])⟩ .leaf .leaf)) (.node 33 ⟨.st [(0, 1, true), (1, 1, true), (2, 1, true), (3, 1, true), (4, 1, true)], true, 5, (some [.bool false, .int .i64 0, .string ⟨#[]⟩, .int .i64 0, .int .i64 0]), (some [.b, .i .i64, .s, .i .i64, .i .i64])⟩ (.node 31 ⟨.st [(0, 11, false), (11, 11, false), (22, 11, false)], true, 33, (some [.bool false, .string ⟨#[]⟩, .string ⟨#[]⟩, .int .i64 0, .int .i64 0, .int .i64 0, .int .i64 0, .bool false, .int .i64 0, .int .u64 0, .bool false, .bool false, .string ⟨#[]⟩, .string ⟨#[]⟩, .int .i64 0, .int .i64 0, .int .i64 0, .int .i64 0, .bool false, .int .i64 0, .int .u64 0, .bool false, .bool false, .string ⟨#[]⟩, .string ⟨#[]⟩, .int .i64 0, .int .i64 0, .int .i64 0, .int .i64 0, .bool false, .int .i64 0, .int .u64 0, .bool false]), (some [.b, .s, .s, .i .i64, .i .i64, .i .i64, .i .i64, .b, .i .i64, .i .u64, .b, .b, .s, .s, .i .i64, .i .i64, .i .i64, .i .i64, .b, .i .i64, .i .u64, .b, .b, .s, .s, .i .i64, .i .i64, .i .i64, .i .i64, .b, .i .i64, .i .u64, .b])⟩ .leaf .leaf) .leaf))) (.node 58 ⟨.int .u32, false, 1, (some [.int .u32 0]), none⟩ (.node 45 ⟨.sl 55 2 32 [.string ⟨#[]⟩, .string ⟨#[]⟩], false, 1, (some [.slice none 0 0]), none⟩ (.node 37 ⟨.sl 36 41 416 [.string ⟨#[]⟩, .string ⟨#[]⟩, .bool false, .string ⟨#[]⟩, .string ⟨#[]⟩, .int .i64 0, .int .i64 0, .int .i64 0, .int .i64 0, .bool false, .int .i64 0, .int .u64 0, .bool false, .bool false, .string ⟨#[]⟩, .string ⟨#[]⟩, .int .i64 0, .int .i64 0, .int .i64 0, .int .i64 0, .bool false, .int .i64 0, .int .u64 0, .bool false, .bool false, .string ⟨#[]⟩, .string ⟨#[]⟩, .int .i64 0, .int .i64 0, .int .i64 0, .int .i64 0, .bool false, .int .i64 0, .int .u64 0, .bool false, .bool false, .int .i64 0, .string ⟨#[]⟩, .int .i64 0, .int .i64 0, .slice none 0 0], false, 1, (some [.slice none 0 0]), none⟩ (.node 36 ⟨.st [(0, 1, true), (1, 1, true), (2, 33, false), (35, 5, false), (40, 1, true)], true, 41, (some [.string ⟨#[]⟩, .string ⟨#[]⟩, .bool false, .string ⟨#[]⟩, .string ⟨#[]⟩, .int .i64 0, .int .i64 0, .int .i64 0, .int .i64 0, .bool false, .int .i64 0, .int .u64 0, .bool false, .bool false, .string ⟨#[]⟩, .string ⟨#[]⟩, .int .i64 0, .int .i64 0, .int .i64 0, .int .i64 0, .bool false, .int .i64 0, .int .u64 0, .bool false, .bool false, .string ⟨#[]⟩, .string ⟨#[]⟩, .int .i64 0, .int .i64 0, .int .i64 0, .int .i64 0, .bool false, .int .i64 0, .int .u64 0, .bool false, .bool false, .int .i64 0, .string ⟨#[]⟩, .int .i64 0, .int .i64 0, .slice none 0 0]), none⟩ .leaf .leaf) (.node 38 ⟨.int .i64, false, 1, (some [.int .i64 0]), none⟩ .leaf .leaf)) (.node 55 ⟨.st [(0, 1, true), (1, 1, true)], true, 2, (some [.string ⟨#[]⟩, .string ⟨#[]⟩]), (some [.s, .s])⟩ (.node 52 ⟨.sl 72 4 40 [.int .i64 0, .int .i64 0, .int .i64 0, .string ⟨#[]⟩], false, 1, (some [.slice none 0 0]), none⟩ .leaf .leaf) .leaf)) (.node 82 ⟨.st [(0, 1, true), (1, 1, true), (2, 1, true), (3, 2, false)], true, 5, (some [.int .i64 0, .string ⟨#[]⟩, .int .i64 0, .int .u32 0, .int .i64 0]), (some [.i .i64, .s, .i .i64, .i .u32, .i .i64])⟩ (.node 72 ⟨.st [(0, 1, true), (1, 1, true), (2, 1, true), (3, 1, true)], true, 4, (some [.int .i64 0, .int .i64 0, .int .i64 0, .string ⟨#[]⟩]), (some [.i .i64, .i .i64, .i .i64, .s])⟩ (.node 69 ⟨.st [(0, 1, true), (1, 1, true)], true, 2, (some [.int .u32 0, .int .i64 0]), (some [.i .u32, .i .i64])⟩ .leaf .leaf) (.node 78 ⟨.sl 82 5 48 [.int .i64 0, .string ⟨#[]⟩, .int .i64 0, .int .u32 0, .int .i64 0], false, 1, (some [.slice none 0 0]), none⟩ .leaf .leaf)) (.node 95 ⟨.sl 101 5 80 [.string ⟨#[]⟩, .string ⟨#[]⟩, .string ⟨#[]⟩, .int .i64 0, .slice none 0 0], false, 1, (some [.slice none 0 0]), none⟩ (.node 87 ⟨.sl 9 1 16 [.string ⟨#[]⟩], false, 1, (some [.slice none 0 0]), none⟩ .leaf .leaf) .leaf)))) (.node 195 ⟨.other, false, 1, (some [.pointer none]), none⟩ (.node 138 ⟨.sl 5 1 1 [.int .u8 0], false, 1, (some [.slice none 0 0]), none⟩ (.node 116 ⟨.ar 5 1 3, true, 5, (some [.int .i64 0, .int .i64 0, .int .i64 0, .int .i64 0, .int .i64 0]), none⟩ (.node 101 ⟨.st [(0, 1, true), (1, 1, true), (2, 1, true), (3, 1, true), (4, 1, true)], true, 5, (some [.string ⟨#[]⟩, .string ⟨#[]⟩, .string ⟨#[]⟩, .int .i64 0, .slice none 0 0]), none⟩ (.node 99 ⟨.sl 69 2 16 [.int .u32 0, .int .i64 0], false, 1, (some [.slice none 0 0]), none⟩ .leaf .leaf) (.node 114 ⟨.sl 3 1 8 [.int .i64 0], false, 1, (some [.slice none 0 0]), none⟩ .leaf .leaf)) (.node 133 ⟨.ar 11 1 9, true, 11, (some [.string ⟨#[]⟩, .string ⟨#[]⟩, .string ⟨#[]⟩, .string ⟨#[]⟩, .string ⟨#[]⟩, .string ⟨#[]⟩, .string ⟨#[]⟩, .string ⟨#[]⟩, .string ⟨#[]⟩, .string ⟨#[]⟩, .string ⟨#[]⟩]), none⟩ (.node 128 ⟨.int .u64, false, 1, (some [.int .u64 0]), none⟩ .leaf .leaf) (.node 137 ⟨.ptr, false, 1, (some [.pointer none]), none⟩ .leaf .leaf))) (.node 173 ⟨.st [(0, 1, true), (1, 1, true), (2, 1, true)], true, 3, (some [.int .u32 0, .int .u32 0, .slice none 0 0]), none⟩ (.node 158 ⟨.ar 2 3 97, true, 6, (some [.string ⟨#[]⟩, .int .i64 0, .slice none 0 0, .string ⟨#[]⟩, .int .i64 0, .slice none 0 0]), none⟩ (.node 140 ⟨.st [(0, 1, true), (1, 1, true)], true, 2, (some [.pointer none, .slice none 0 0]), none⟩ .leaf .leaf) (.node 169 ⟨.ar 3 11 26, true, 33, (some [.bool false, .string ⟨#[]⟩, .string ⟨#[]⟩, .int .i64 0, .int .i64 0, .int .i64 0, .int .i64 0, .bool false, .int .i64 0, .int .u64 0, .bool false, .bool false, .string ⟨#[]⟩, .string ⟨#[]⟩, .int .i64 0, .int .i64 0, .int .i64 0, .int .i64 0, .bool false, .int .i64 0, .int .u64 0, .bool false, .bool false, .string ⟨#[]⟩, .string ⟨#[]⟩, .int .i64 0, .int .i64 0, .int .i64 0, .int .i64 0, .bool false, .int .i64 0, .int .u64 0, .bool false]), none⟩ .leaf .leaf)) (.node 187 ⟨.ar 2 1 9, true, 2, (some [.string ⟨#[]⟩, .string ⟨#[]⟩]), none⟩ (.node 178 ⟨.ptr, false, 1, (some [.pointer none]), none⟩ .leaf .leaf) .leaf))) (.node 230 ⟨.ar 65 1 5, true, 65, (some [.int .u8 0, .int .u8 0, .int .u8 0, .int .u8 0, .int .u8 0, .int .u8 0, .int .u8 0, .int .u8 0, .int .u8 0, .int .u8 0, .int .u8 0, .int .u8 0, .int .u8 0, .int .u8 0, .int .u8 0, .int .u8 0, .int .u8 0, .int .u8 0, .int .u8 0, .int .u8 0, .int .u8 0, .int .u8 0, .int .u8 0, .int .u8 0, .int .u8 0, .int .u8 0, .int .u8 0, .int .u8 0, .int .u8 0, .int .u8 0, .int .u8 0, .int .u8 0, .int .u8 0, .int .u8 0, .int .u8 0, .int .u8 0, .int .u8 0, .int .u8 0, .int .u8 0, .int .u8 0, .int .u8 0, .int .u8 0, .int .u8 0, .int .u8 0, .int .u8 0, .int .u8 0, .int .u8 0, .int .u8 0, .int .u8 0, .int .u8 0, .int .u8 0, .int .u8 0, .int .u8 0, .int .u8 0, .int .u8 0, .int .u8 0, .int .u8 0, .int .u8 0, .int .u8 0, .int .u8 0, .int .u8 0, .int .u8 0, .int .u8 0, .int .u8 0, .int .u8 0]), none⟩ (.node 224 ⟨.ptr, false, 1, (some [.pointer none]), none⟩ (.node 216 ⟨.ar 24 1 5, true, 24, (some [.int .u8 0, .int .u8 0, .int .u8 0, .int .u8 0, .int .u8 0, .int .u8 0, .int .u8 0, .int .u8 0, .int .u8 0, .int .u8 0, .int .u8 0, .int .u8 0, .int .u8 0, .int .u8 0, .int .u8 0, .int .u8 0, .int .u8 0, .int .u8 0, .int .u8 0, .int .u8 0, .int .u8 0, .int .u8 0, .int .u8 0, .int .u8 0]), none⟩ (.node 200 ⟨.int .i64, false, 1, (some [.int .i64 0]), none⟩ .leaf .leaf) (.node 220 ⟨.int .u64, false, 1, (some [.int .u64 0]), none⟩ .leaf .leaf)) (.node 229 ⟨.ar 20 1 22, true, 20, (some [.int .u64 0, .int .u64 0, .int .u64 0, .int .u64 0, .int .u64 0, .int .u64 0, .int .u64 0, .int .u64 0, .int .u64 0, .int .u64 0, .int .u64 0, .int .u64 0, .int .u64 0, .int .u64 0, .int .u64 0, .int .u64 0, .int .u64 0, .int .u64 0, .int .u64 0, .int .u64 0]), none⟩ (.node 226 ⟨.ar 8 1 58, true, 8, (some [.int .u32 0, .int .u32 0, .int .u32 0, .int .u32 0, .int .u32 0, .int .u32 0, .int .u32 0, .int .u32 0]), none⟩ .leaf .leaf) .leaf)) (.node 241 ⟨.ar 16 2 240, true, 32, (some [.int .u8 0, .int .u8 0, .int .u8 0, .int .u8 0, .int .u8 0, .int .u8 0, .int .u8 0, .int .u8 0, .int .u8 0, .int .u8 0, .int .u8 0, .int .u8 0, .int .u8 0, .int .u8 0, .int .u8 0, .int .u8 0, .int .u8 0, .int .u8 0, .int .u8 0, .int .u8 0, .int .u8 0, .int .u8 0, .int .u8 0, .int .u8 0, .int .u8 0, .int .u8 0, .int .u8 0, .int .u8 0, .int .u8 0, .int .u8 0, .int .u8 0, .int .u8 0]), none⟩ (.node 238 ⟨.ar 256 1 5, true, 256, none, none⟩ (.node 234 ⟨.ar 64 1 58, true, 64, (some [.int .u32 0, .int .u32 0, .int .u32 0, .int .u32 0, .int .u32 0, .int .u32 0, .int .u32 0, .int .u32 0, .int .u32 0, .int .u32 0, .int .u32 0, .int .u32 0, .int .u32 0, .int .u32 0, .int .u32 0, .int .u32 0, .int .u32 0, .int .u32 0, .int .u32 0, .int .u32 0, .int .u32 0, .int .u32 0, .int .u32 0, .int .u32 0, .int .u32 0, .int .u32 0, .int .u32 0, .int .u32 0, .int .u32 0, .int .u32 0, .int .u32 0, .int .u32 0, .int .u32 0, .int .u32 0, .int .u32 0, .int .u32 0, .int .u32 0, .int .u32 0, .int .u32 0, .int .u32 0, .int .u32 0, .int .u32 0, .int .u32 0, .int .u32 0, .int .u32 0, .int .u32 0, .int .u32 0, .int .u32 0, .int .u32 0, .int .u32 0, .int .u32 0, .int .u32 0, .int .u32 0, .int .u32 0, .int .u32 0, .int .u32 0, .int .u32 0, .int .u32 0, .int .u32 0, .int .u32 0, .int .u32 0, .int .u32 0, .int .u32 0, .int .u32 0]), none⟩ .leaf .leaf) (.node 240 ⟨.st [(0, 1, true), (1, 1, true)], true, 2, (some [.int .u8 0, .int .u8 0]), (some [.i .u8, .i .u8])⟩ .leaf .leaf)) (.node 243 ⟨.ar 64 1 5, true, 64, (some [.int .u8 0, .int .u8 0, .int .u8 0, .int .u8 0, .int .u8 0, .int .u8 0, .int .u8 0, .int .u8 0, .int .u8 0, .int .u8 0, .int .u8 0, .int .u8 0, .int .u8 0, .int .u8 0, .int .u8 0, .int .u8 0, .int .u8 0, .int .u8 0, .int .u8 0, .int .u8 0, .int .u8 0, .int .u8 0, .int .u8 0, .int .u8 0, .int .u8 0, .int .u8 0, .int .u8 0, .int .u8 0, .int .u8 0, .int .u8 0, .int .u8 0, .int .u8 0, .int .u8 0, .int .u8 0, .int .u8 0, .int .u8 0, .int .u8 0, .int .u8 0, .int .u8 0, .int .u8 0, .int .u8 0, .int .u8 0, .int .u8 0, .int .u8 0, .int .u8 0, .int .u8 0, .int .u8 0, .int .u8 0, .int .u8 0, .int .u8 0, .int .u8 0, .int .u8 0, .int .u8 0, .int .u8 0, .int .u8 0, .int .u8 0, .int .u8 0, .int .u8 0, .int .u8 0, .int .u8 0, .int .u8 0, .int .u8 0, .int .u8 0, .int .u8 0]), none⟩ (.node 242 ⟨.ar 32 1 5, true, 32, (some [.int .u8 0, .int .u8 0, .int .u8 0, .int .u8 0, .int .u8 0, .int .u8 0, .int .u8 0, .int .u8 0, .int .u8 0, .int .u8 0, .int .u8 0, .int .u8 0, .int .u8 0, .int .u8 0, .int .u8 0, .int .u8 0, .int .u8 0, .int .u8 0, .int .u8 0, .int .u8 0, .int .u8 0, .int .u8 0, .int .u8 0, .int .u8 0, .int .u8 0, .int .u8 0, .int .u8 0, .int .u8 0, .int .u8 0, .int .u8 0, .int .u8 0, .int .u8 0]), none⟩ .leaf .leaf) .leaf)))))
theorem tab_ok : tabT.ok Tryd.prog := ⟨ti_97, ⟨ti_34, ⟨ti_11, ⟨ti_5, ⟨ti_3, ⟨ti_2, trivial, trivial⟩, ⟨ti_4, trivial, trivial⟩⟩, ⟨ti_7, ⟨ti_6, trivial, trivial⟩, ⟨ti_9, trivial, trivial⟩⟩⟩, ⟨ti_26, ⟨ti_22, ⟨ti_21, trivial, trivial⟩, ⟨ti_24, trivial, trivial⟩⟩, ⟨ti_33, ⟨ti_31, trivial, trivial⟩, trivial⟩⟩⟩, ⟨ti_58, ⟨ti_45, ⟨ti_37, ⟨ti_36, trivial, trivial⟩, ⟨ti_38, trivial, trivial⟩⟩, ⟨ti_55, ⟨ti_52, trivial, trivial⟩, trivial⟩⟩, ⟨ti_82, ⟨ti_72, ⟨ti_69, trivial, trivial⟩, ⟨ti_78, trivial, trivial⟩⟩, ⟨ti_95, ⟨ti_87, trivial, trivial⟩, trivial⟩⟩⟩⟩, ⟨ti_195, ⟨ti_138, ⟨ti_116, ⟨ti_101, ⟨ti_99, trivial, trivial⟩, ⟨ti_114, trivial, trivial⟩⟩, ⟨ti_133, ⟨ti_128, trivial, trivial⟩, ⟨ti_137, trivial, trivial⟩⟩⟩, ⟨ti_173, ⟨ti_158, ⟨ti_140, trivial, trivial⟩, ⟨ti_169, trivial, trivial⟩⟩, ⟨ti_187, ⟨ti_178, trivial, trivial⟩, trivial⟩⟩⟩, ⟨ti_230, ⟨ti_224, ⟨ti_216, ⟨ti_200, trivial, trivial⟩, ⟨ti_220, trivial, trivial⟩⟩, ⟨ti_229, ⟨ti_226, trivial, trivial⟩, trivial⟩⟩, ⟨ti_241, ⟨ti_238, ⟨ti_234, trivial, trivial⟩, ⟨ti_240, trivial, trivial⟩⟩, ⟨ti_243, ⟨ti_242, trivial, trivial⟩, trivial⟩⟩⟩⟩⟩
end Go.Proofs.YtcdoobkaobiacaaDoor
