/- What the types of this translation are: the table that the walk by computation reads. Written by a program (ag.py). -/
import Derived.Test.YtpcagbfnddgjpaaProg
import Derived.Test.YtpcagbfnddgjpaaFD
namespace Go.Proofs.Ytpcagbfnddgjpaa
set_option linter.unusedVariables false
set_option maxRecDepth 100000 in
theorem ti_2 : TIok Try.prog 2 ⟨.int .i64, false, 1, (some [.int .i64 0]), none⟩ where
  ptr := fun h => by cases h
  ks := fun l h => by cases h
  agg := by kernel_rfl
  sz := by kernel_rfl
  ze := fun z h => by cases h; exact ⟨by kernel_rfl, by kernel_rfl⟩
  int := fun k h => by cases h; kernel_rfl
  str := fun h => by cases h
  bool := fun h => by cases h
  sl := fun e s b z h => by cases h
  st := fun pl h => by cases h
  ar := fun n s e h => by cases h
  mp := fun K V h => by cases h
set_option maxRecDepth 100000 in
theorem ti_3 : TIok Try.prog 3 ⟨.int .i64, false, 1, (some [.int .i64 0]), none⟩ where
  ptr := fun h => by cases h
  ks := fun l h => by cases h
  agg := by kernel_rfl
  sz := by kernel_rfl
  ze := fun z h => by cases h; exact ⟨by kernel_rfl, by kernel_rfl⟩
  int := fun k h => by cases h; kernel_rfl
  str := fun h => by cases h
  bool := fun h => by cases h
  sl := fun e s b z h => by cases h
  st := fun pl h => by cases h
  ar := fun n s e h => by cases h
  mp := fun K V h => by cases h
set_option maxRecDepth 100000 in
theorem ti_4 : TIok Try.prog 4 ⟨.bool, false, 1, (some [.bool false]), none⟩ where
  ptr := fun h => by cases h
  ks := fun l h => by cases h
  agg := by kernel_rfl
  sz := by kernel_rfl
  ze := fun z h => by cases h; exact ⟨by kernel_rfl, by kernel_rfl⟩
  int := fun k h => by cases h
  str := fun h => by cases h
  bool := fun h => by exact by kernel_rfl
  sl := fun e s b z h => by cases h
  st := fun pl h => by cases h
  ar := fun n s e h => by cases h
  mp := fun K V h => by cases h
set_option maxRecDepth 100000 in
theorem ti_5 : TIok Try.prog 5 ⟨.int .u8, false, 1, (some [.int .u8 0]), none⟩ where
  ptr := fun h => by cases h
  ks := fun l h => by cases h
  agg := by kernel_rfl
  sz := by kernel_rfl
  ze := fun z h => by cases h; exact ⟨by kernel_rfl, by kernel_rfl⟩
  int := fun k h => by cases h; kernel_rfl
  str := fun h => by cases h
  bool := fun h => by cases h
  sl := fun e s b z h => by cases h
  st := fun pl h => by cases h
  ar := fun n s e h => by cases h
  mp := fun K V h => by cases h
set_option maxRecDepth 100000 in
theorem ti_6 : TIok Try.prog 6 ⟨.int .u8, false, 1, (some [.int .u8 0]), none⟩ where
  ptr := fun h => by cases h
  ks := fun l h => by cases h
  agg := by kernel_rfl
  sz := by kernel_rfl
  ze := fun z h => by cases h; exact ⟨by kernel_rfl, by kernel_rfl⟩
  int := fun k h => by cases h; kernel_rfl
  str := fun h => by cases h
  bool := fun h => by cases h
  sl := fun e s b z h => by cases h
  st := fun pl h => by cases h
  ar := fun n s e h => by cases h
  mp := fun K V h => by cases h
set_option maxRecDepth 100000 in
theorem ti_7 : TIok Try.prog 7 ⟨.st [(0, 1, true), (1, 1, true), (2, 1, true), (3, 1, true)], true, 4, (some [.int .i64 0, .int .i64 0, .bool false, .int .u8 0]), (some [.i .i64, .i .i64, .b, .i .u8])⟩ where
  ptr := fun h => by cases h
  ks := fun l h => by cases h; exact ⟨by kernel_rfl, by kernel_rfl⟩
  agg := by kernel_rfl
  sz := by kernel_rfl
  ze := fun z h => by cases h; exact ⟨by kernel_rfl, by kernel_rfl⟩
  int := fun k h => by cases h
  str := fun h => by cases h
  bool := fun h => by cases h
  sl := fun e s b z h => by cases h
  st := fun pl h => by cases h; kernel_rfl
  ar := fun n s e h => by cases h
  mp := fun K V h => by cases h
set_option maxRecDepth 100000 in
theorem ti_8 : TIok Try.prog 8 ⟨.st [(0, 1, true), (1, 1, true), (2, 1, true), (3, 1, true)], true, 4, (some [.int .i64 0, .int .i64 0, .bool false, .int .u8 0]), (some [.i .i64, .i .i64, .b, .i .u8])⟩ where
  ptr := fun h => by cases h
  ks := fun l h => by cases h; exact ⟨by kernel_rfl, by kernel_rfl⟩
  agg := by kernel_rfl
  sz := by kernel_rfl
  ze := fun z h => by cases h; exact ⟨by kernel_rfl, by kernel_rfl⟩
  int := fun k h => by cases h
  str := fun h => by cases h
  bool := fun h => by cases h
  sl := fun e s b z h => by cases h
  st := fun pl h => by cases h; kernel_rfl
  ar := fun n s e h => by cases h
  mp := fun K V h => by cases h
set_option maxRecDepth 100000 in
theorem ti_9 : TIok Try.prog 9 ⟨.str, false, 1, (some [.string ⟨#[]⟩]), none⟩ where
  ptr := fun h => by cases h
  ks := fun l h => by cases h
  agg := by kernel_rfl
  sz := by kernel_rfl
  ze := fun z h => by cases h; exact ⟨by kernel_rfl, by kernel_rfl⟩
  int := fun k h => by cases h
  str := fun h => by exact by kernel_rfl
  bool := fun h => by cases h
  sl := fun e s b z h => by cases h
  st := fun pl h => by cases h
  ar := fun n s e h => by cases h
  mp := fun K V h => by cases h
set_option maxRecDepth 100000 in
theorem ti_11 : TIok Try.prog 11 ⟨.str, false, 1, (some [.string ⟨#[]⟩]), none⟩ where
  ptr := fun h => by cases h
  ks := fun l h => by cases h
  agg := by kernel_rfl
  sz := by kernel_rfl
  ze := fun z h => by cases h; exact ⟨by kernel_rfl, by kernel_rfl⟩
  int := fun k h => by cases h
  str := fun h => by exact by kernel_rfl
  bool := fun h => by cases h
  sl := fun e s b z h => by cases h
  st := fun pl h => by cases h
  ar := fun n s e h => by cases h
  mp := fun K V h => by cases h
set_option maxRecDepth 100000 in
theorem ti_22 : TIok Try.prog 22 ⟨.sl 5 1 1 [.int .u8 0], false, 1, (some [.slice none 0 0]), none⟩ where
  ptr := fun h => by cases h
  ks := fun l h => by cases h
  agg := by kernel_rfl
  sz := by kernel_rfl
  ze := fun z h => by cases h; exact ⟨by kernel_rfl, by kernel_rfl⟩
  int := fun k h => by cases h
  str := fun h => by cases h
  bool := fun h => by cases h
  sl := fun e s b z h => by cases h; exact ⟨by kernel_rfl, by kernel_rfl, by kernel_rfl, by decide, by kernel_rfl⟩
  st := fun pl h => by cases h
  ar := fun n s e h => by cases h
  mp := fun K V h => by cases h
set_option maxRecDepth 100000 in
theorem ti_23 : TIok Try.prog 23 ⟨.int .i64, false, 1, (some [.int .i64 0]), none⟩ where
  ptr := fun h => by cases h
  ks := fun l h => by cases h
  agg := by kernel_rfl
  sz := by kernel_rfl
  ze := fun z h => by cases h; exact ⟨by kernel_rfl, by kernel_rfl⟩
  int := fun k h => by cases h; kernel_rfl
  str := fun h => by cases h
  bool := fun h => by cases h
  sl := fun e s b z h => by cases h
  st := fun pl h => by cases h
  ar := fun n s e h => by cases h
  mp := fun K V h => by cases h
set_option maxRecDepth 100000 in
theorem ti_48 : TIok Try.prog 48 ⟨.int .u64, false, 1, (some [.int .u64 0]), none⟩ where
  ptr := fun h => by cases h
  ks := fun l h => by cases h
  agg := by kernel_rfl
  sz := by kernel_rfl
  ze := fun z h => by cases h; exact ⟨by kernel_rfl, by kernel_rfl⟩
  int := fun k h => by cases h; kernel_rfl
  str := fun h => by cases h
  bool := fun h => by cases h
  sl := fun e s b z h => by cases h
  st := fun pl h => by cases h
  ar := fun n s e h => by cases h
  mp := fun K V h => by cases h
set_option maxRecDepth 100000 in
theorem ti_50 : TIok Try.prog 50 ⟨.st [(0, 1, true), (1, 1, true), (2, 1, true)], true, 3, (some [.bool false, .int .i64 0, .int .u64 0]), (some [.b, .i .i64, .i .u64])⟩ where
  ptr := fun h => by cases h
  ks := fun l h => by cases h; exact ⟨by kernel_rfl, by kernel_rfl⟩
  agg := by kernel_rfl
  sz := by kernel_rfl
  ze := fun z h => by cases h; exact ⟨by kernel_rfl, by kernel_rfl⟩
  int := fun k h => by cases h
  str := fun h => by cases h
  bool := fun h => by cases h
  sl := fun e s b z h => by cases h
  st := fun pl h => by cases h; kernel_rfl
  ar := fun n s e h => by cases h
  mp := fun K V h => by cases h
set_option maxRecDepth 100000 in
theorem ti_52 : TIok Try.prog 52 ⟨.st [(0, 1, true), (1, 1, true), (2, 1, true), (3, 1, true), (4, 1, true), (5, 1, true), (6, 1, true), (7, 3, true), (10, 1, true)], true, 11, (some [.bool false, .string ⟨#[]⟩, .string ⟨#[]⟩, .int .i64 0, .int .i64 0, .int .i64 0, .int .i64 0, .bool false, .int .i64 0, .int .u64 0, .bool false]), (some [.b, .s, .s, .i .i64, .i .i64, .i .i64, .i .i64, .b, .i .i64, .i .u64, .b])⟩ where
  ptr := fun h => by cases h
  ks := fun l h => by cases h; exact ⟨by kernel_rfl, by kernel_rfl⟩
  agg := by kernel_rfl
  sz := by kernel_rfl
  ze := fun z h => by cases h; exact ⟨by kernel_rfl, by kernel_rfl⟩
  int := fun k h => by cases h
  str := fun h => by cases h
  bool := fun h => by cases h
  sl := fun e s b z h => by cases h
  st := fun pl h => by cases h; kernel_rfl
  ar := fun n s e h => by cases h
  mp := fun K V h => by cases h
set_option maxRecDepth 100000 in
theorem ti_56 : TIok Try.prog 56 ⟨.st [(0, 11, true), (11, 11, true), (22, 11, true)], true, 33, (some [.bool false, .string ⟨#[]⟩, .string ⟨#[]⟩, .int .i64 0, .int .i64 0, .int .i64 0, .int .i64 0, .bool false, .int .i64 0, .int .u64 0, .bool false, .bool false, .string ⟨#[]⟩, .string ⟨#[]⟩, .int .i64 0, .int .i64 0, .int .i64 0, .int .i64 0, .bool false, .int .i64 0, .int .u64 0, .bool false, .bool false, .string ⟨#[]⟩, .string ⟨#[]⟩, .int .i64 0, .int .i64 0, .int .i64 0, .int .i64 0, .bool false, .int .i64 0, .int .u64 0, .bool false]), (some [.b, .s, .s, .i .i64, .i .i64, .i .i64, .i .i64, .b, .i .i64, .i .u64, .b, .b, .s, .s, .i .i64, .i .i64, .i .i64, .i .i64, .b, .i .i64, .i .u64, .b, .b, .s, .s, .i .i64, .i .i64, .i .i64, .i .i64, .b, .i .i64, .i .u64, .b])⟩ where
  ptr := fun h => by cases h
  ks := fun l h => by cases h; exact ⟨by kernel_rfl, by kernel_rfl⟩
  agg := by kernel_rfl
  sz := by kernel_rfl
  ze := fun z h => by cases h; exact ⟨by kernel_rfl, by kernel_rfl⟩
  int := fun k h => by cases h
  str := fun h => by cases h
  bool := fun h => by cases h
  sl := fun e s b z h => by cases h
  st := fun pl h => by cases h; kernel_rfl
  ar := fun n s e h => by cases h
  mp := fun K V h => by cases h
set_option maxRecDepth 100000 in
theorem ti_60 : TIok Try.prog 60 ⟨.sl 9 1 16 [.string ⟨#[]⟩], false, 1, (some [.slice none 0 0]), none⟩ where
  ptr := fun h => by cases h
  ks := fun l h => by cases h
  agg := by kernel_rfl
  sz := by kernel_rfl
  ze := fun z h => by cases h; exact ⟨by kernel_rfl, by kernel_rfl⟩
  int := fun k h => by cases h
  str := fun h => by cases h
  bool := fun h => by cases h
  sl := fun e s b z h => by cases h; exact ⟨by kernel_rfl, by kernel_rfl, by kernel_rfl, by decide, by kernel_rfl⟩
  st := fun pl h => by cases h
  ar := fun n s e h => by cases h
  mp := fun K V h => by cases h
set_option maxRecDepth 100000 in
theorem ti_61 : TIok Try.prog 61 ⟨.sl 22 1 24 [.slice none 0 0], false, 1, (some [.slice none 0 0]), none⟩ where
  ptr := fun h => by cases h
  ks := fun l h => by cases h
  agg := by kernel_rfl
  sz := by kernel_rfl
  ze := fun z h => by cases h; exact ⟨by kernel_rfl, by kernel_rfl⟩
  int := fun k h => by cases h
  str := fun h => by cases h
  bool := fun h => by cases h
  sl := fun e s b z h => by cases h; exact ⟨by kernel_rfl, by kernel_rfl, by kernel_rfl, by decide, by kernel_rfl⟩
  st := fun pl h => by cases h
  ar := fun n s e h => by cases h
  mp := fun K V h => by cases h
set_option maxRecDepth 100000 in
theorem ti_72 : TIok Try.prog 72 ⟨.st [(0, 1, true), (1, 1, true), (2, 1, true), (3, 1, true), (4, 1, true)], true, 5, (some [.int .i64 0, .int .i64 0, .int .i64 0, .int .i64 0, .slice none 0 0]), none⟩ where
  ptr := fun h => by cases h
  ks := fun l h => by cases h
  agg := by kernel_rfl
  sz := by kernel_rfl
  ze := fun z h => by cases h; exact ⟨by kernel_rfl, by kernel_rfl⟩
  int := fun k h => by cases h
  str := fun h => by cases h
  bool := fun h => by cases h
  sl := fun e s b z h => by cases h
  st := fun pl h => by cases h; kernel_rfl
  ar := fun n s e h => by cases h
  mp := fun K V h => by cases h
set_option maxRecDepth 100000 in
theorem ti_80 : TIok Try.prog 80 ⟨.st [(0, 1, true), (1, 1, true), (2, 1, true), (3, 1, true), (4, 1, true)], true, 5, (some [.bool false, .int .i64 0, .string ⟨#[]⟩, .int .i64 0, .int .i64 0]), (some [.b, .i .i64, .s, .i .i64, .i .i64])⟩ where
  ptr := fun h => by cases h
  ks := fun l h => by cases h; exact ⟨by kernel_rfl, by kernel_rfl⟩
  agg := by kernel_rfl
  sz := by kernel_rfl
  ze := fun z h => by cases h; exact ⟨by kernel_rfl, by kernel_rfl⟩
  int := fun k h => by cases h
  str := fun h => by cases h
  bool := fun h => by cases h
  sl := fun e s b z h => by cases h
  st := fun pl h => by cases h; kernel_rfl
  ar := fun n s e h => by cases h
  mp := fun K V h => by cases h
set_option maxRecDepth 100000 in
theorem ti_84 : TIok Try.prog 84 ⟨.sl 97 4 40 [.int .i64 0, .int .i64 0, .int .i64 0, .string ⟨#[]⟩], false, 1, (some [.slice none 0 0]), none⟩ where
  ptr := fun h => by cases h
  ks := fun l h => by cases h
  agg := by kernel_rfl
  sz := by kernel_rfl
  ze := fun z h => by cases h; exact ⟨by kernel_rfl, by kernel_rfl⟩
  int := fun k h => by cases h
  str := fun h => by cases h
  bool := fun h => by cases h
  sl := fun e s b z h => by cases h; exact ⟨by kernel_rfl, by kernel_rfl, by kernel_rfl, by decide, by kernel_rfl⟩
  st := fun pl h => by cases h
  ar := fun n s e h => by cases h
  mp := fun K V h => by cases h
set_option maxRecDepth 100000 in
theorem ti_85 : TIok Try.prog 85 ⟨.sl 100 4 40 [.int .u32 0, .int .i64 0, .string ⟨#[]⟩, .int .i64 0], false, 1, (some [.slice none 0 0]), none⟩ where
  ptr := fun h => by cases h
  ks := fun l h => by cases h
  agg := by kernel_rfl
  sz := by kernel_rfl
  ze := fun z h => by cases h; exact ⟨by kernel_rfl, by kernel_rfl⟩
  int := fun k h => by cases h
  str := fun h => by cases h
  bool := fun h => by cases h
  sl := fun e s b z h => by cases h; exact ⟨by kernel_rfl, by kernel_rfl, by kernel_rfl, by decide, by kernel_rfl⟩
  st := fun pl h => by cases h
  ar := fun n s e h => by cases h
  mp := fun K V h => by cases h
theorem mapt_86 : MapT Try.prog 86 94 9 where
  u := by kernel_rfl
  fl := by kernel_rfl
  ag := by kernel_rfl
  wide := by kernel_rfl
  ck := fun e k w => ck_netB (by kernel_rfl) e k w
  zv := fun w => by
    obtain ⟨v, h1, h2⟩ := run_zeroCells (T := 9) (z := [.string ⟨#[]⟩]) (P := Try.prog) (by kernel_rfl) w
    cases v <;> simp_all [Value.cells]
set_option maxRecDepth 100000 in
theorem ti_86 : TIok Try.prog 86 ⟨.mp 94 9, false, 1, (some [.map none]), none⟩ where
  ptr := fun h => by cases h
  ks := fun l h => by cases h
  agg := by kernel_rfl
  sz := by kernel_rfl
  ze := fun z h => by cases h; exact ⟨by kernel_rfl, by kernel_rfl⟩
  int := fun k h => by cases h
  str := fun h => by cases h
  bool := fun h => by cases h
  sl := fun e s b z h => by cases h
  st := fun pl h => by cases h
  ar := fun n s e h => by cases h
  mp := fun K V h => by cases h; exact mapt_86
set_option maxRecDepth 100000 in
theorem ti_92 : TIok Try.prog 92 ⟨.int .u32, false, 1, (some [.int .u32 0]), none⟩ where
  ptr := fun h => by cases h
  ks := fun l h => by cases h
  agg := by kernel_rfl
  sz := by kernel_rfl
  ze := fun z h => by cases h; exact ⟨by kernel_rfl, by kernel_rfl⟩
  int := fun k h => by cases h; kernel_rfl
  str := fun h => by cases h
  bool := fun h => by cases h
  sl := fun e s b z h => by cases h
  st := fun pl h => by cases h
  ar := fun n s e h => by cases h
  mp := fun K V h => by cases h
set_option maxRecDepth 100000 in
theorem ti_94 : TIok Try.prog 94 ⟨.st [(0, 1, true), (1, 1, true)], true, 2, (some [.int .u32 0, .int .i64 0]), (some [.i .u32, .i .i64])⟩ where
  ptr := fun h => by cases h
  ks := fun l h => by cases h; exact ⟨by kernel_rfl, by kernel_rfl⟩
  agg := by kernel_rfl
  sz := by kernel_rfl
  ze := fun z h => by cases h; exact ⟨by kernel_rfl, by kernel_rfl⟩
  int := fun k h => by cases h
  str := fun h => by cases h
  bool := fun h => by cases h
  sl := fun e s b z h => by cases h
  st := fun pl h => by cases h; kernel_rfl
  ar := fun n s e h => by cases h
  mp := fun K V h => by cases h
set_option maxRecDepth 100000 in
theorem ti_97 : TIok Try.prog 97 ⟨.st [(0, 1, true), (1, 1, true), (2, 1, true), (3, 1, true)], true, 4, (some [.int .i64 0, .int .i64 0, .int .i64 0, .string ⟨#[]⟩]), (some [.i .i64, .i .i64, .i .i64, .s])⟩ where
  ptr := fun h => by cases h
  ks := fun l h => by cases h; exact ⟨by kernel_rfl, by kernel_rfl⟩
  agg := by kernel_rfl
  sz := by kernel_rfl
  ze := fun z h => by cases h; exact ⟨by kernel_rfl, by kernel_rfl⟩
  int := fun k h => by cases h
  str := fun h => by cases h
  bool := fun h => by cases h
  sl := fun e s b z h => by cases h
  st := fun pl h => by cases h; kernel_rfl
  ar := fun n s e h => by cases h
  mp := fun K V h => by cases h
set_option maxRecDepth 100000 in
theorem ti_100 : TIok Try.prog 100 ⟨.st [(0, 2, true), (2, 1, true), (3, 1, true)], true, 4, (some [.int .u32 0, .int .i64 0, .string ⟨#[]⟩, .int .i64 0]), (some [.i .u32, .i .i64, .s, .i .i64])⟩ where
  ptr := fun h => by cases h
  ks := fun l h => by cases h; exact ⟨by kernel_rfl, by kernel_rfl⟩
  agg := by kernel_rfl
  sz := by kernel_rfl
  ze := fun z h => by cases h; exact ⟨by kernel_rfl, by kernel_rfl⟩
  int := fun k h => by cases h
  str := fun h => by cases h
  bool := fun h => by cases h
  sl := fun e s b z h => by cases h
  st := fun pl h => by cases h; kernel_rfl
  ar := fun n s e h => by cases h
  mp := fun K V h => by cases h
set_option maxRecDepth 100000 in
theorem ti_101 : TIok Try.prog 101 ⟨.sl 92 1 4 [.int .u32 0], false, 1, (some [.slice none 0 0]), none⟩ where
  ptr := fun h => by cases h
  ks := fun l h => by cases h
  agg := by kernel_rfl
  sz := by kernel_rfl
  ze := fun z h => by cases h; exact ⟨by kernel_rfl, by kernel_rfl⟩
  int := fun k h => by cases h
  str := fun h => by cases h
  bool := fun h => by cases h
  sl := fun e s b z h => by cases h; exact ⟨by kernel_rfl, by kernel_rfl, by kernel_rfl, by decide, by kernel_rfl⟩
  st := fun pl h => by cases h
  ar := fun n s e h => by cases h
  mp := fun K V h => by cases h
set_option maxRecDepth 100000 in
theorem ti_119 : TIok Try.prog 119 ⟨.ptr, false, 1, (some [.pointer none]), none⟩ where
  ptr := fun h => ⟨121, by kernel_rfl⟩
  ks := fun l h => by cases h
  agg := by kernel_rfl
  sz := by kernel_rfl
  ze := fun z h => by cases h; exact ⟨by kernel_rfl, by kernel_rfl⟩
  int := fun k h => by cases h
  str := fun h => by cases h
  bool := fun h => by cases h
  sl := fun e s b z h => by cases h
  st := fun pl h => by cases h
  ar := fun n s e h => by cases h
  mp := fun K V h => by cases h
set_option maxRecDepth 100000 in
theorem ti_121 : TIok Try.prog 121 ⟨.st [(0, 1, true), (1, 1, true)], true, 2, (some [.pointer none, .slice none 0 0]), none⟩ where
  ptr := fun h => by cases h
  ks := fun l h => by cases h
  agg := by kernel_rfl
  sz := by kernel_rfl
  ze := fun z h => by cases h; exact ⟨by kernel_rfl, by kernel_rfl⟩
  int := fun k h => by cases h
  str := fun h => by cases h
  bool := fun h => by cases h
  sl := fun e s b z h => by cases h
  st := fun pl h => by cases h; kernel_rfl
  ar := fun n s e h => by cases h
  mp := fun K V h => by cases h
set_option maxRecDepth 100000 in
theorem ti_126 : TIok Try.prog 126 ⟨.int .u64, false, 1, (some [.int .u64 0]), none⟩ where
  ptr := fun h => by cases h
  ks := fun l h => by cases h
  agg := by kernel_rfl
  sz := by kernel_rfl
  ze := fun z h => by cases h; exact ⟨by kernel_rfl, by kernel_rfl⟩
  int := fun k h => by cases h; kernel_rfl
  str := fun h => by cases h
  bool := fun h => by cases h
  sl := fun e s b z h => by cases h
  st := fun pl h => by cases h
  ar := fun n s e h => by cases h
  mp := fun K V h => by cases h
set_option maxRecDepth 100000 in
theorem ti_127 : TIok Try.prog 127 ⟨.ar 2 1 9, true, 2, (some [.string ⟨#[]⟩, .string ⟨#[]⟩]), none⟩ where
  ptr := fun h => by cases h
  ks := fun l h => by cases h
  agg := by kernel_rfl
  sz := by kernel_rfl
  ze := fun z h => by cases h; exact ⟨by kernel_rfl, by kernel_rfl⟩
  int := fun k h => by cases h
  str := fun h => by cases h
  bool := fun h => by cases h
  sl := fun e s b z h => by cases h
  st := fun pl h => by cases h
  ar := fun n s e h => by cases h; exact ⟨by kernel_rfl, by kernel_rfl, by kernel_rfl⟩
  mp := fun K V h => by cases h
set_option maxRecDepth 100000 in
theorem ti_133 : TIok Try.prog 133 ⟨.ar 4 11 52, true, 44, (some [.bool false, .string ⟨#[]⟩, .string ⟨#[]⟩, .int .i64 0, .int .i64 0, .int .i64 0, .int .i64 0, .bool false, .int .i64 0, .int .u64 0, .bool false, .bool false, .string ⟨#[]⟩, .string ⟨#[]⟩, .int .i64 0, .int .i64 0, .int .i64 0, .int .i64 0, .bool false, .int .i64 0, .int .u64 0, .bool false, .bool false, .string ⟨#[]⟩, .string ⟨#[]⟩, .int .i64 0, .int .i64 0, .int .i64 0, .int .i64 0, .bool false, .int .i64 0, .int .u64 0, .bool false, .bool false, .string ⟨#[]⟩, .string ⟨#[]⟩, .int .i64 0, .int .i64 0, .int .i64 0, .int .i64 0, .bool false, .int .i64 0, .int .u64 0, .bool false]), none⟩ where
  ptr := fun h => by cases h
  ks := fun l h => by cases h
  agg := by kernel_rfl
  sz := by kernel_rfl
  ze := fun z h => by cases h; exact ⟨by kernel_rfl, by kernel_rfl⟩
  int := fun k h => by cases h
  str := fun h => by cases h
  bool := fun h => by cases h
  sl := fun e s b z h => by cases h
  st := fun pl h => by cases h
  ar := fun n s e h => by cases h; exact ⟨by kernel_rfl, by kernel_rfl, by kernel_rfl⟩
  mp := fun K V h => by cases h
set_option maxRecDepth 100000 in
theorem ti_142 : TIok Try.prog 142 ⟨.ptr, false, 1, (some [.pointer none]), none⟩ where
  ptr := fun h => ⟨151, by kernel_rfl⟩
  ks := fun l h => by cases h
  agg := by kernel_rfl
  sz := by kernel_rfl
  ze := fun z h => by cases h; exact ⟨by kernel_rfl, by kernel_rfl⟩
  int := fun k h => by cases h
  str := fun h => by cases h
  bool := fun h => by cases h
  sl := fun e s b z h => by cases h
  st := fun pl h => by cases h
  ar := fun n s e h => by cases h
  mp := fun K V h => by cases h
set_option maxRecDepth 100000 in
theorem ti_146 : TIok Try.prog 146 ⟨.sl 94 2 16 [.int .u32 0, .int .i64 0], false, 1, (some [.slice none 0 0]), none⟩ where
  ptr := fun h => by cases h
  ks := fun l h => by cases h
  agg := by kernel_rfl
  sz := by kernel_rfl
  ze := fun z h => by cases h; exact ⟨by kernel_rfl, by kernel_rfl⟩
  int := fun k h => by cases h
  str := fun h => by cases h
  bool := fun h => by cases h
  sl := fun e s b z h => by cases h; exact ⟨by kernel_rfl, by kernel_rfl, by kernel_rfl, by decide, by kernel_rfl⟩
  st := fun pl h => by cases h
  ar := fun n s e h => by cases h
  mp := fun K V h => by cases h
set_option maxRecDepth 100000 in
theorem ti_149 : TIok Try.prog 149 ⟨.ar 2 1 142, true, 2, (some [.pointer none, .pointer none]), none⟩ where
  ptr := fun h => by cases h
  ks := fun l h => by cases h
  agg := by kernel_rfl
  sz := by kernel_rfl
  ze := fun z h => by cases h; exact ⟨by kernel_rfl, by kernel_rfl⟩
  int := fun k h => by cases h
  str := fun h => by cases h
  bool := fun h => by cases h
  sl := fun e s b z h => by cases h
  st := fun pl h => by cases h
  ar := fun n s e h => by cases h; exact ⟨by kernel_rfl, by kernel_rfl, by kernel_rfl⟩
  mp := fun K V h => by cases h
set_option maxRecDepth 100000 in
theorem ti_151 : TIok Try.prog 151 ⟨.st [(0, 2, true), (2, 1, true), (3, 2, true)], true, 5, (some [.int .u32 0, .int .i64 0, .string ⟨#[]⟩, .pointer none, .pointer none]), none⟩ where
  ptr := fun h => by cases h
  ks := fun l h => by cases h
  agg := by kernel_rfl
  sz := by kernel_rfl
  ze := fun z h => by cases h; exact ⟨by kernel_rfl, by kernel_rfl⟩
  int := fun k h => by cases h
  str := fun h => by cases h
  bool := fun h => by cases h
  sl := fun e s b z h => by cases h
  st := fun pl h => by cases h; kernel_rfl
  ar := fun n s e h => by cases h
  mp := fun K V h => by cases h
set_option maxRecDepth 100000 in
theorem ti_159 : TIok Try.prog 159 ⟨.ar 8 1 92, true, 8, (some [.int .u32 0, .int .u32 0, .int .u32 0, .int .u32 0, .int .u32 0, .int .u32 0, .int .u32 0, .int .u32 0]), none⟩ where
  ptr := fun h => by cases h
  ks := fun l h => by cases h
  agg := by kernel_rfl
  sz := by kernel_rfl
  ze := fun z h => by cases h; exact ⟨by kernel_rfl, by kernel_rfl⟩
  int := fun k h => by cases h
  str := fun h => by cases h
  bool := fun h => by cases h
  sl := fun e s b z h => by cases h
  st := fun pl h => by cases h
  ar := fun n s e h => by cases h; exact ⟨by kernel_rfl, by kernel_rfl, by kernel_rfl⟩
  mp := fun K V h => by cases h
set_option maxRecDepth 100000 in
theorem ti_168 : TIok Try.prog 168 ⟨.ptr, false, 1, (some [.pointer none]), none⟩ where
  ptr := fun h => ⟨5, by kernel_rfl⟩
  ks := fun l h => by cases h
  agg := by kernel_rfl
  sz := by kernel_rfl
  ze := fun z h => by cases h; exact ⟨by kernel_rfl, by kernel_rfl⟩
  int := fun k h => by cases h
  str := fun h => by cases h
  bool := fun h => by cases h
  sl := fun e s b z h => by cases h
  st := fun pl h => by cases h
  ar := fun n s e h => by cases h
  mp := fun K V h => by cases h
set_option maxRecDepth 100000 in
theorem ti_172 : TIok Try.prog 172 ⟨.st [(0, 1, true), (1, 1, true), (2, 1, true), (3, 1, true), (4, 1, true)], true, 5, (some [.int .i64 0, .int .i64 0, .bool false, .bool false, .bool false]), (some [.i .i64, .i .i64, .b, .b, .b])⟩ where
  ptr := fun h => by cases h
  ks := fun l h => by cases h; exact ⟨by kernel_rfl, by kernel_rfl⟩
  agg := by kernel_rfl
  sz := by kernel_rfl
  ze := fun z h => by cases h; exact ⟨by kernel_rfl, by kernel_rfl⟩
  int := fun k h => by cases h
  str := fun h => by cases h
  bool := fun h => by cases h
  sl := fun e s b z h => by cases h
  st := fun pl h => by cases h; kernel_rfl
  ar := fun n s e h => by cases h
  mp := fun K V h => by cases h
set_option maxRecDepth 100000 in
theorem ti_178 : TIok Try.prog 178 ⟨.ar 64 1 92, true, 64, (some [.int .u32 0, .int .u32 0, .int .u32 0, .int .u32 0, .int .u32 0, .int .u32 0, .int .u32 0, .int .u32 0, .int .u32 0, .int .u32 0, .int .u32 0, .int .u32 0, .int .u32 0, .int .u32 0, .int .u32 0, .int .u32 0, .int .u32 0, .int .u32 0, .int .u32 0, .int .u32 0, .int .u32 0, .int .u32 0, .int .u32 0, .int .u32 0, .int .u32 0, .int .u32 0, .int .u32 0, .int .u32 0, .int .u32 0, .int .u32 0, .int .u32 0, .int .u32 0, .int .u32 0, .int .u32 0, .int .u32 0, .int .u32 0, .int .u32 0, .int .u32 0, .int .u32 0, .int .u32 0, .int .u32 0, .int .u32 0, .int .u32 0, .int .u32 0, .int .u32 0, .int .u32 0, .int .u32 0, .int .u32 0, .int .u32 0, .int .u32 0, .int .u32 0, .int .u32 0, .int .u32 0, .int .u32 0, .int .u32 0, .int .u32 0, .int .u32 0, .int .u32 0, .int .u32 0, .int .u32 0, .int .u32 0, .int .u32 0, .int .u32 0, .int .u32 0]), none⟩ where
  ptr := fun h => by cases h
  ks := fun l h => by cases h
  agg := by kernel_rfl
  sz := by kernel_rfl
  ze := fun z h => by cases h; exact ⟨by kernel_rfl, by kernel_rfl⟩
  int := fun k h => by cases h
  str := fun h => by cases h
  bool := fun h => by cases h
  sl := fun e s b z h => by cases h
  st := fun pl h => by cases h
  ar := fun n s e h => by cases h; exact ⟨by kernel_rfl, by kernel_rfl, by kernel_rfl⟩
  mp := fun K V h => by cases h
set_option maxRecDepth 100000 in
theorem ti_186 : TIok Try.prog 186 ⟨.other, false, 1, (some [.pointer none]), none⟩ where
  ptr := fun h => by cases h
  ks := fun l h => by cases h
  agg := by kernel_rfl
  sz := by kernel_rfl
  ze := fun z h => by cases h; exact ⟨by kernel_rfl, by kernel_rfl⟩
  int := fun k h => by cases h
  str := fun h => by cases h
  bool := fun h => by cases h
  sl := fun e s b z h => by cases h
  st := fun pl h => by cases h
  ar := fun n s e h => by cases h
  mp := fun K V h => by cases h
set_option maxRecDepth 100000 in
theorem ti_188 : TIok Try.prog 188 ⟨.ar 2 2 94, true, 4, (some [.int .u32 0, .int .i64 0, .int .u32 0, .int .i64 0]), none⟩ where
  ptr := fun h => by cases h
  ks := fun l h => by cases h
  agg := by kernel_rfl
  sz := by kernel_rfl
  ze := fun z h => by cases h; exact ⟨by kernel_rfl, by kernel_rfl⟩
  int := fun k h => by cases h
  str := fun h => by cases h
  bool := fun h => by cases h
  sl := fun e s b z h => by cases h
  st := fun pl h => by cases h
  ar := fun n s e h => by cases h; exact ⟨by kernel_rfl, by kernel_rfl, by kernel_rfl⟩
  mp := fun K V h => by cases h
def tabT : TT := (.node 86 ⟨.mp 94 9, false, 1, (some [.map none]), none⟩ (.node 23 ⟨.int .i64, false, 1, (some [.int .i64 0]), none⟩ (.node 7 ⟨.st [(0, 1, true), (1, 1, true), (2, 1, true), (3, 1, true)], true, 4, (some [.int .i64 0, .int .i64 0, .bool false, .int .u8 0]), (some [.i .i64, .i .i64, .b, .i .u8])⟩ (.node 4 ⟨.bool, false, 1, (some [.bool false]), none⟩ (.node 3 ⟨.int .i64, false, 1, (some [.int .i64 0]), none⟩ (.node 2 ⟨.int .i64, false, 1, (some [.int .i64 0]), none⟩ .leaf .leaf) .leaf) (.node 6 ⟨.int .u8, false, 1, (some [.int .u8 0]), none⟩ (.node 5 ⟨.int .u8, false, 1, (some [.int .u8 0]), none⟩ .leaf .leaf) .leaf)) (.node 11 ⟨.str, false, 1, (some [.string ⟨#[]⟩]), none⟩ (.node 9 ⟨.str, false, 1, (some [.string ⟨#[]⟩]), none⟩ (.node 8 ⟨.st [(0, 1, true), (1, 1, true), (2, 1, true), (3, 1, true)], true, 4, (some [.int .i64 0, .int .i64 0, .bool false, .int .u8 0]), (some [.i .i64, .i .i64, .b, .i .u8])⟩ .leaf .leaf) .leaf) (.node 22 ⟨.sl 5 1 1 [.int .u8 0], false, 1, (some [.slice none 0 0]), none⟩ .leaf .leaf))) (.node 61 ⟨.sl 22 1 24 [.slice none 0 0], false, 1, (some [.slice none 0 0]), none⟩ (.node 52 ⟨.st [(0, 1, true), (1, 1, true), (2, 1, true), (3, 1, true), (4, 1, true), (5, 1, true), (6, 1, true), (7, 3, true), (10, 1, true)], true, 11, (some [.bool false, .string ⟨#[]⟩, .string ⟨#[]⟩, .int .i64 0, .int .i64 0, .int .i64 0, .int .i64 0, .bool false, .int .i64 0, .int .u64 0, .bool false]), (some [.b, .s, .s, .i .i64, .i .i64, .i .i64, .i .i64, .b, .i .i64, .i .u64, .b])⟩ (.node 50 ⟨.st [(0, 1, true), (1, 1, true), (2, 1, true)], true, 3, (some [.bool false, .int .i64 0, .int .u64 0]), (some [.b, .i .i64, .i .u64])⟩ (.node 48 ⟨.int .u64, false, 1, (some [.int .u64 0]), none⟩ .leaf .leaf) .leaf) (.node 60 ⟨.sl 9 1 16 [.string ⟨#[]⟩], false, 1, (some [.slice none 0 0]), none⟩ (.node 56 ⟨.st [(0, 11, true), (11, 11, true), (22, 11, true)], true, 33, (some [.bool false, .string ⟨#[]⟩, .string ⟨#[]⟩, .int .i64 0, .int .i64 0, .int .i64 0, .int .i64 0, .bool false, .int .i64 0, .int .u64 0, .bool false, .bool false, .string ⟨#[]⟩, .string ⟨#[]⟩, .int .i64 0, .int .i64 0, .int .i64 0, .int .i64 0, .bool false, .int .i64 0, .int .u64 0, .bool false, .bool false, .string ⟨#[]⟩, .string ⟨#[]⟩, .int .i64 0, .int .i64 0, .int .i64 0, .int .i64 0, .bool false, .int .i64 0, .int .u64 0, .bool false]), (some [.b, .s, .s, .i .i64, .i .i64, .i .i64, .i .i64, .b, .i .i64, .i .u64, .b, .b, .s, .s, .i .i64, .i .i64, .i .i64, .i .i64, .b, .i .i64, .i .u64, .b, .b, .s, .s, .i .i64, .i .i64, .i .i64, .i .i64, .b, .i .i64, .i .u64, .b])⟩ .leaf .leaf) .leaf)) (.node 84 ⟨.sl 97 4 40 [.int .i64 0, .int .i64 0, .int .i64 0, .string ⟨#[]⟩], false, 1, (some [.slice none 0 0]), none⟩ (.node 80 ⟨.st [(0, 1, true), (1, 1, true), (2, 1, true), (3, 1, true), (4, 1, true)], true, 5, (some [.bool false, .int .i64 0, .string ⟨#[]⟩, .int .i64 0, .int .i64 0]), (some [.b, .i .i64, .s, .i .i64, .i .i64])⟩ (.node 72 ⟨.st [(0, 1, true), (1, 1, true), (2, 1, true), (3, 1, true), (4, 1, true)], true, 5, (some [.int .i64 0, .int .i64 0, .int .i64 0, .int .i64 0, .slice none 0 0]), none⟩ .leaf .leaf) .leaf) (.node 85 ⟨.sl 100 4 40 [.int .u32 0, .int .i64 0, .string ⟨#[]⟩, .int .i64 0], false, 1, (some [.slice none 0 0]), none⟩ .leaf .leaf)))) (.node 142 ⟨.ptr, false, 1, (some [.pointer none]), none⟩ (.node 119 ⟨.ptr, false, 1, (some [.pointer none]), none⟩ (.node 97 ⟨.st [(0, 1, true), (1, 1, true), (2, 1, true), (3, 1, true)], true, 4, (some [.int .i64 0, .int .i64 0, .int .i64 0, .string ⟨#[]⟩]), (some [.i .i64, .i .i64, .i .i64, .s])⟩ (.node 94 ⟨.st [(0, 1, true), (1, 1, true)], true, 2, (some [.int .u32 0, .int .i64 0]), (some [.i .u32, .i .i64])⟩ (.node 92 ⟨.int .u32, false, 1, (some [.int .u32 0]), none⟩ .leaf .leaf) .leaf) (.node 101 ⟨.sl 92 1 4 [.int .u32 0], false, 1, (some [.slice none 0 0]), none⟩ (.node 100 ⟨.st [(0, 2, true), (2, 1, true), (3, 1, true)], true, 4, (some [.int .u32 0, .int .i64 0, .string ⟨#[]⟩, .int .i64 0]), (some [.i .u32, .i .i64, .s, .i .i64])⟩ .leaf .leaf) .leaf)) (.node 127 ⟨.ar 2 1 9, true, 2, (some [.string ⟨#[]⟩, .string ⟨#[]⟩]), none⟩ (.node 126 ⟨.int .u64, false, 1, (some [.int .u64 0]), none⟩ (.node 121 ⟨.st [(0, 1, true), (1, 1, true)], true, 2, (some [.pointer none, .slice none 0 0]), none⟩ .leaf .leaf) .leaf) (.node 133 ⟨.ar 4 11 52, true, 44, (some [.bool false, .string ⟨#[]⟩, .string ⟨#[]⟩, .int .i64 0, .int .i64 0, .int .i64 0, .int .i64 0, .bool false, .int .i64 0, .int .u64 0, .bool false, .bool false, .string ⟨#[]⟩, .string ⟨#[]⟩, .int .i64 0, .int .i64 0, .int .i64 0, .int .i64 0, .bool false, .int .i64 0, .int .u64 0, .bool false, .bool false, .string ⟨#[]⟩, .string ⟨#[]⟩, .int .i64 0, .int .i64 0, .int .i64 0, .int .i64 0, .bool false, .int .i64 0, .int .u64 0, .bool false, .bool false, .string ⟨#[]⟩, .string ⟨#[]⟩, .int .i64 0, .int .i64 0, .int .i64 0, .int .i64 0, .bool false, .int .i64 0, .int .u64 0, .bool false]), none⟩ .leaf .leaf))) (.node 168 ⟨.ptr, false, 1, (some [.pointer none]), none⟩ (.node 151 ⟨.st [(0, 2, true), (2, 1, true), (3, 2, true)], true, 5, (some [.int .u32 0, .int .i64 0, .string ⟨#[]⟩, .pointer none, .pointer none]), none⟩ (.node 149 ⟨.ar 2 1 142, true, 2, (some [.pointer none, .pointer none]), none⟩ (.node 146 ⟨.sl 94 2 16 [.int .u32 0, .int .i64 0], false, 1, (some [.slice none 0 0]), none⟩ .leaf .leaf) .leaf) (.node 159 ⟨.ar 8 1 92, true, 8, (some [.int .u32 0, .int .u32 0, .int .u32 0, .int .u32 0, .int .u32 0, .int .u32 0, .int .u32 0, .int .u32 0]), none⟩ .leaf .leaf)) (.node 186 ⟨.other, false, 1, (some [.pointer none]), none⟩ (.node 178 ⟨.ar 64 1 92, true, 64, (some [.int .u32 0, .int .u32 0, .int .u32 0, .int .u32 0, .int .u32 0, .int .u32 0, .int .u32 0, .int .u32 0, .int .u32 0, .int .u32 0, .int .u32 0, .int .u32 0, .int .u32 0, .int .u32 0, .int .u32 0, .int .u32 0, .int .u32 0, .int .u32 0, .int .u32 0, .int .u32 0, .int .u32 0, .int .u32 0, .int .u32 0, .int .u32 0, .int .u32 0, .int .u32 0, .int .u32 0, .int .u32 0, .int .u32 0, .int .u32 0, .int .u32 0, .int .u32 0, .int .u32 0, .int .u32 0, .int .u32 0, .int .u32 0, .int .u32 0, .int .u32 0, .int .u32 0, .int .u32 0, .int .u32 0, .int .u32 0, .int .u32 0, .int .u32 0, .int .u32 0, .int .u32 0, .int .u32 0, .int .u32 0, .int .u32 0, .int .u32 0, .int .u32 0, .int .u32 0, .int .u32 0, .int .u32 0, .int .u32 0, .int .u32 0, .int .u32 0, .int .u32 0, .int .u32 0, .int .u32 0, .int .u32 0, .int .u32 0, .int .u32 0, .int .u32 0]), none⟩ (.node 172 ⟨.st [(0, 1, true), (1, 1, true), (2, 1, true), (3, 1, true), (4, 1, true)], true, 5, (some [.int .i64 0, .int .i64 0, .bool false, .bool false, .bool false]), (some [.i .i64, .i .i64, .b, .b, .b])⟩ .leaf .leaf) .leaf) (.node 188 ⟨.ar 2 2 94, true, 4, (some [.int .u32 0, .int .i64 0, .int .u32 0, .int .i64 0]), none⟩ .leaf .leaf)))))
theorem tab_ok : tabT.ok Try.prog := ⟨ti_86, ⟨ti_23, ⟨ti_7, ⟨ti_4, ⟨ti_3, ⟨ti_2, trivial, trivial⟩, trivial⟩, ⟨ti_6, ⟨ti_5, trivial, trivial⟩, trivial⟩⟩, ⟨ti_11, ⟨ti_9, ⟨ti_8, trivial, trivial⟩, trivial⟩, ⟨ti_22, trivial, trivial⟩⟩⟩, ⟨ti_61, ⟨ti_52, ⟨ti_50, ⟨ti_48, trivial, trivial⟩, trivial⟩, ⟨ti_60, ⟨ti_56, trivial, trivial⟩, trivial⟩⟩, ⟨ti_84, ⟨ti_80, ⟨ti_72, trivial, trivial⟩, trivial⟩, ⟨ti_85, trivial, trivial⟩⟩⟩⟩, ⟨ti_142, ⟨ti_119, ⟨ti_97, ⟨ti_94, ⟨ti_92, trivial, trivial⟩, trivial⟩, ⟨ti_101, ⟨ti_100, trivial, trivial⟩, trivial⟩⟩, ⟨ti_127, ⟨ti_126, ⟨ti_121, trivial, trivial⟩, trivial⟩, ⟨ti_133, trivial, trivial⟩⟩⟩, ⟨ti_168, ⟨ti_151, ⟨ti_149, ⟨ti_146, trivial, trivial⟩, trivial⟩, ⟨ti_159, trivial, trivial⟩⟩, ⟨ti_186, ⟨ti_178, ⟨ti_172, trivial, trivial⟩, trivial⟩, ⟨ti_188, trivial, trivial⟩⟩⟩⟩⟩
end Go.Proofs.Ytpcagbfnddgjpaa
