/- What the types of this translation are: the table that the walk by computation reads. Written by a program (ag.py). -/
import Derived.Test.YtcdoobkaobiacaaProg
import Derived.Test.YtcdoobkaobiacaaFD
namespace Go.Proofs.Ytcdoobkaobiacaa
set_option linter.unusedVariables false
set_option maxRecDepth 100000 in
theorem ti_2 : TIok Try.prog 2 ⟨.int .i64, false, 1, (some [.int .i64 0]), none⟩ where
  ptr := fun h => by cases h
  ks := fun l h => by cases h
  agg := by kernel_rfl
  sz := by kernel_rfl
  ze := fun z h => by cases h; exact ⟨by kernel_rfl, by kernel_rfl⟩
  int := fun k h => by cases h; kernel_rfl
  str := fun h => by cases h
  bool := fun h => by cases h
  sl := fun e s b z h => by cases h
  st := fun pl h => by cases h
  ar := fun n s e h => by cases h
  mp := fun K V h => by cases h
  fl := fun pl h => by cases h
set_option maxRecDepth 100000 in
theorem ti_3 : TIok Try.prog 3 ⟨.int .i64, false, 1, (some [.int .i64 0]), none⟩ where
  ptr := fun h => by cases h
  ks := fun l h => by cases h
  agg := by kernel_rfl
  sz := by kernel_rfl
  ze := fun z h => by cases h; exact ⟨by kernel_rfl, by kernel_rfl⟩
  int := fun k h => by cases h; kernel_rfl
  str := fun h => by cases h
  bool := fun h => by cases h
  sl := fun e s b z h => by cases h
  st := fun pl h => by cases h
  ar := fun n s e h => by cases h
  mp := fun K V h => by cases h
  fl := fun pl h => by cases h
set_option maxRecDepth 100000 in
theorem ti_4 : TIok Try.prog 4 ⟨.bool, false, 1, (some [.bool false]), none⟩ where
  ptr := fun h => by cases h
  ks := fun l h => by cases h
  agg := by kernel_rfl
  sz := by kernel_rfl
  ze := fun z h => by cases h; exact ⟨by kernel_rfl, by kernel_rfl⟩
  int := fun k h => by cases h
  str := fun h => by cases h
  bool := fun h => by exact by kernel_rfl
  sl := fun e s b z h => by cases h
  st := fun pl h => by cases h
  ar := fun n s e h => by cases h
  mp := fun K V h => by cases h
  fl := fun pl h => by cases h
set_option maxRecDepth 100000 in
theorem ti_5 : TIok Try.prog 5 ⟨.int .u8, false, 1, (some [.int .u8 0]), none⟩ where
  ptr := fun h => by cases h
  ks := fun l h => by cases h
  agg := by kernel_rfl
  sz := by kernel_rfl
  ze := fun z h => by cases h; exact ⟨by kernel_rfl, by kernel_rfl⟩
  int := fun k h => by cases h; kernel_rfl
  str := fun h => by cases h
  bool := fun h => by cases h
  sl := fun e s b z h => by cases h
  st := fun pl h => by cases h
  ar := fun n s e h => by cases h
  mp := fun K V h => by cases h
  fl := fun pl h => by cases h
set_option maxRecDepth 100000 in
theorem ti_9 : TIok Try.prog 9 ⟨.str, false, 1, (some [.string ⟨#[]⟩]), none⟩ where
  ptr := fun h => by cases h
  ks := fun l h => by cases h
  agg := by kernel_rfl
  sz := by kernel_rfl
  ze := fun z h => by cases h; exact ⟨by kernel_rfl, by kernel_rfl⟩
  int := fun k h => by cases h
  str := fun h => by exact by kernel_rfl
  bool := fun h => by cases h
  sl := fun e s b z h => by cases h
  st := fun pl h => by cases h
  ar := fun n s e h => by cases h
  mp := fun K V h => by cases h
  fl := fun pl h => by cases h
set_option maxRecDepth 100000 in
theorem ti_11 : TIok Try.prog 11 ⟨.str, false, 1, (some [.string ⟨#[]⟩]), none⟩ where
  ptr := fun h => by cases h
  ks := fun l h => by cases h
  agg := by kernel_rfl
  sz := by kernel_rfl
  ze := fun z h => by cases h; exact ⟨by kernel_rfl, by kernel_rfl⟩
  int := fun k h => by cases h
  str := fun h => by exact by kernel_rfl
  bool := fun h => by cases h
  sl := fun e s b z h => by cases h
  st := fun pl h => by cases h
  ar := fun n s e h => by cases h
  mp := fun K V h => by cases h
  fl := fun pl h => by cases h
set_option maxRecDepth 100000 in
theorem ti_22 : TIok Try.prog 22 ⟨.sl 25 4 40 [.int .i64 0, .int .i64 0, .int .i64 0, .string ⟨#[]⟩], false, 1, (some [.slice none 0 0]), none⟩ where
  ptr := fun h => by cases h
  ks := fun l h => by cases h
  agg := by kernel_rfl
  sz := by kernel_rfl
  ze := fun z h => by cases h; exact ⟨by kernel_rfl, by kernel_rfl⟩
  int := fun k h => by cases h
  str := fun h => by cases h
  bool := fun h => by cases h
  sl := fun e s b z h => by cases h; exact ⟨by kernel_rfl, by kernel_rfl, by kernel_rfl, by decide, by kernel_rfl⟩
  st := fun pl h => by cases h
  ar := fun n s e h => by cases h
  mp := fun K V h => by cases h
  fl := fun pl h => by cases h
set_option maxRecDepth 100000 in
theorem ti_23 : TIok Try.prog 23 ⟨.int .u32, false, 1, (some [.int .u32 0]), none⟩ where
  ptr := fun h => by cases h
  ks := fun l h => by cases h
  agg := by kernel_rfl
  sz := by kernel_rfl
  ze := fun z h => by cases h; exact ⟨by kernel_rfl, by kernel_rfl⟩
  int := fun k h => by cases h; kernel_rfl
  str := fun h => by cases h
  bool := fun h => by cases h
  sl := fun e s b z h => by cases h
  st := fun pl h => by cases h
  ar := fun n s e h => by cases h
  mp := fun K V h => by cases h
  fl := fun pl h => by cases h
set_option maxRecDepth 100000 in
theorem ti_25 : TIok Try.prog 25 ⟨.st [(0, 1, true), (1, 1, true), (2, 1, true), (3, 1, true)], true, 4, (some [.int .i64 0, .int .i64 0, .int .i64 0, .string ⟨#[]⟩]), (some [.i .i64, .i .i64, .i .i64, .s])⟩ where
  ptr := fun h => by cases h
  ks := fun l h => by cases h; exact ⟨by kernel_rfl, by kernel_rfl⟩
  agg := by kernel_rfl
  sz := by kernel_rfl
  ze := fun z h => by cases h; exact ⟨by kernel_rfl, by kernel_rfl⟩
  int := fun k h => by cases h
  str := fun h => by cases h
  bool := fun h => by cases h
  sl := fun e s b z h => by cases h
  st := fun pl h => by cases h; kernel_rfl
  ar := fun n s e h => by cases h
  mp := fun K V h => by cases h
  fl := fun pl h => by cases h; kernel_rfl
set_option maxRecDepth 100000 in
theorem ti_26 : TIok Try.prog 26 ⟨.sl 50 4 40 [.int .u32 0, .int .i64 0, .string ⟨#[]⟩, .int .i64 0], false, 1, (some [.slice none 0 0]), none⟩ where
  ptr := fun h => by cases h
  ks := fun l h => by cases h
  agg := by kernel_rfl
  sz := by kernel_rfl
  ze := fun z h => by cases h; exact ⟨by kernel_rfl, by kernel_rfl⟩
  int := fun k h => by cases h
  str := fun h => by cases h
  bool := fun h => by cases h
  sl := fun e s b z h => by cases h; exact ⟨by kernel_rfl, by kernel_rfl, by kernel_rfl, by decide, by kernel_rfl⟩
  st := fun pl h => by cases h
  ar := fun n s e h => by cases h
  mp := fun K V h => by cases h
  fl := fun pl h => by cases h
theorem mapt_27 : MapT Try.prog 27 31 9 where
  u := by kernel_rfl
  fl := by kernel_rfl
  ag := by kernel_rfl
  wide := by kernel_rfl
  ck := fun e k w => ck_netB (by kernel_rfl) e k w
  zv := fun w => by
    obtain ⟨v, h1, h2⟩ := run_zeroCells (T := 9) (z := [.string ⟨#[]⟩]) (P := Try.prog) (by kernel_rfl) w
    cases v <;> simp_all [Value.cells]
set_option maxRecDepth 100000 in
theorem ti_27 : TIok Try.prog 27 ⟨.mp 31 9, false, 1, (some [.map none]), none⟩ where
  ptr := fun h => by cases h
  ks := fun l h => by cases h
  agg := by kernel_rfl
  sz := by kernel_rfl
  ze := fun z h => by cases h; exact ⟨by kernel_rfl, by kernel_rfl⟩
  int := fun k h => by cases h
  str := fun h => by cases h
  bool := fun h => by cases h
  sl := fun e s b z h => by cases h
  st := fun pl h => by cases h
  ar := fun n s e h => by cases h
  mp := fun K V h => by cases h; exact mapt_27
  fl := fun pl h => by cases h
set_option maxRecDepth 100000 in
theorem ti_31 : TIok Try.prog 31 ⟨.st [(0, 1, true), (1, 1, true)], true, 2, (some [.int .u32 0, .int .i64 0]), (some [.i .u32, .i .i64])⟩ where
  ptr := fun h => by cases h
  ks := fun l h => by cases h; exact ⟨by kernel_rfl, by kernel_rfl⟩
  agg := by kernel_rfl
  sz := by kernel_rfl
  ze := fun z h => by cases h; exact ⟨by kernel_rfl, by kernel_rfl⟩
  int := fun k h => by cases h
  str := fun h => by cases h
  bool := fun h => by cases h
  sl := fun e s b z h => by cases h
  st := fun pl h => by cases h; kernel_rfl
  ar := fun n s e h => by cases h
  mp := fun K V h => by cases h
  fl := fun pl h => by cases h; kernel_rfl
set_option maxRecDepth 100000 in
theorem ti_33 : TIok Try.prog 33 ⟨.sl 23 1 4 [.int .u32 0], false, 1, (some [.slice none 0 0]), none⟩ where
  ptr := fun h => by cases h
  ks := fun l h => by cases h
  agg := by kernel_rfl
  sz := by kernel_rfl
  ze := fun z h => by cases h; exact ⟨by kernel_rfl, by kernel_rfl⟩
  int := fun k h => by cases h
  str := fun h => by cases h
  bool := fun h => by cases h
  sl := fun e s b z h => by cases h; exact ⟨by kernel_rfl, by kernel_rfl, by kernel_rfl, by decide, by kernel_rfl⟩
  st := fun pl h => by cases h
  ar := fun n s e h => by cases h
  mp := fun K V h => by cases h
  fl := fun pl h => by cases h
set_option maxRecDepth 100000 in
theorem ti_35 : TIok Try.prog 35 ⟨.int .i64, false, 1, (some [.int .i64 0]), none⟩ where
  ptr := fun h => by cases h
  ks := fun l h => by cases h
  agg := by kernel_rfl
  sz := by kernel_rfl
  ze := fun z h => by cases h; exact ⟨by kernel_rfl, by kernel_rfl⟩
  int := fun k h => by cases h; kernel_rfl
  str := fun h => by cases h
  bool := fun h => by cases h
  sl := fun e s b z h => by cases h
  st := fun pl h => by cases h
  ar := fun n s e h => by cases h
  mp := fun K V h => by cases h
  fl := fun pl h => by cases h
set_option maxRecDepth 100000 in
theorem ti_50 : TIok Try.prog 50 ⟨.st [(0, 2, false), (2, 1, true), (3, 1, true)], true, 4, (some [.int .u32 0, .int .i64 0, .string ⟨#[]⟩, .int .i64 0]), (some [.i .u32, .i .i64, .s, .i .i64])⟩ where
  ptr := fun h => by cases h
  ks := fun l h => by cases h; exact ⟨by kernel_rfl, by kernel_rfl⟩
  agg := by kernel_rfl
  sz := by kernel_rfl
  ze := fun z h => by cases h; exact ⟨by kernel_rfl, by kernel_rfl⟩
  int := fun k h => by cases h
  str := fun h => by cases h
  bool := fun h => by cases h
  sl := fun e s b z h => by cases h
  st := fun pl h => by cases h; kernel_rfl
  ar := fun n s e h => by cases h
  mp := fun K V h => by cases h
  fl := fun pl h => by cases h; kernel_rfl
set_option maxRecDepth 100000 in
theorem ti_53 : TIok Try.prog 53 ⟨.sl 31 2 16 [.int .u32 0, .int .i64 0], false, 1, (some [.slice none 0 0]), none⟩ where
  ptr := fun h => by cases h
  ks := fun l h => by cases h
  agg := by kernel_rfl
  sz := by kernel_rfl
  ze := fun z h => by cases h; exact ⟨by kernel_rfl, by kernel_rfl⟩
  int := fun k h => by cases h
  str := fun h => by cases h
  bool := fun h => by cases h
  sl := fun e s b z h => by cases h; exact ⟨by kernel_rfl, by kernel_rfl, by kernel_rfl, by decide, by kernel_rfl⟩
  st := fun pl h => by cases h
  ar := fun n s e h => by cases h
  mp := fun K V h => by cases h
  fl := fun pl h => by cases h
set_option maxRecDepth 100000 in
theorem ti_57 : TIok Try.prog 57 ⟨.ptr, false, 1, (some [.pointer none]), none⟩ where
  ptr := fun h => ⟨61, by kernel_rfl⟩
  ks := fun l h => by cases h
  agg := by kernel_rfl
  sz := by kernel_rfl
  ze := fun z h => by cases h; exact ⟨by kernel_rfl, by kernel_rfl⟩
  int := fun k h => by cases h
  str := fun h => by cases h
  bool := fun h => by cases h
  sl := fun e s b z h => by cases h
  st := fun pl h => by cases h
  ar := fun n s e h => by cases h
  mp := fun K V h => by cases h
  fl := fun pl h => by cases h
set_option maxRecDepth 100000 in
theorem ti_59 : TIok Try.prog 59 ⟨.ar 2 1 57, true, 2, (some [.pointer none, .pointer none]), none⟩ where
  ptr := fun h => by cases h
  ks := fun l h => by cases h
  agg := by kernel_rfl
  sz := by kernel_rfl
  ze := fun z h => by cases h; exact ⟨by kernel_rfl, by kernel_rfl⟩
  int := fun k h => by cases h
  str := fun h => by cases h
  bool := fun h => by cases h
  sl := fun e s b z h => by cases h
  st := fun pl h => by cases h
  ar := fun n s e h => by cases h; exact ⟨by kernel_rfl, by kernel_rfl, by kernel_rfl⟩
  mp := fun K V h => by cases h
  fl := fun pl h => by cases h
set_option maxRecDepth 100000 in
theorem ti_61 : TIok Try.prog 61 ⟨.st [(0, 2, false), (2, 1, true), (3, 2, false)], true, 5, (some [.int .u32 0, .int .i64 0, .string ⟨#[]⟩, .pointer none, .pointer none]), none⟩ where
  ptr := fun h => by cases h
  ks := fun l h => by cases h
  agg := by kernel_rfl
  sz := by kernel_rfl
  ze := fun z h => by cases h; exact ⟨by kernel_rfl, by kernel_rfl⟩
  int := fun k h => by cases h
  str := fun h => by cases h
  bool := fun h => by cases h
  sl := fun e s b z h => by cases h
  st := fun pl h => by cases h; kernel_rfl
  ar := fun n s e h => by cases h
  mp := fun K V h => by cases h
  fl := fun pl h => by cases h; kernel_rfl
set_option maxRecDepth 100000 in
theorem ti_72 : TIok Try.prog 72 ⟨.int .u64, false, 1, (some [.int .u64 0]), none⟩ where
  ptr := fun h => by cases h
  ks := fun l h => by cases h
  agg := by kernel_rfl
  sz := by kernel_rfl
  ze := fun z h => by cases h; exact ⟨by kernel_rfl, by kernel_rfl⟩
  int := fun k h => by cases h; kernel_rfl
  str := fun h => by cases h
  bool := fun h => by cases h
  sl := fun e s b z h => by cases h
  st := fun pl h => by cases h
  ar := fun n s e h => by cases h
  mp := fun K V h => by cases h
  fl := fun pl h => by cases h
set_option maxRecDepth 100000 in
theorem ti_79 : TIok Try.prog 79 ⟨.ptr, false, 1, (some [.pointer none]), none⟩ where
  ptr := fun h => ⟨82, by kernel_rfl⟩
  ks := fun l h => by cases h
  agg := by kernel_rfl
  sz := by kernel_rfl
  ze := fun z h => by cases h; exact ⟨by kernel_rfl, by kernel_rfl⟩
  int := fun k h => by cases h
  str := fun h => by cases h
  bool := fun h => by cases h
  sl := fun e s b z h => by cases h
  st := fun pl h => by cases h
  ar := fun n s e h => by cases h
  mp := fun K V h => by cases h
  fl := fun pl h => by cases h
set_option maxRecDepth 100000 in
theorem ti_80 : TIok Try.prog 80 ⟨.sl 5 1 1 [.int .u8 0], false, 1, (some [.slice none 0 0]), none⟩ where
  ptr := fun h => by cases h
  ks := fun l h => by cases h
  agg := by kernel_rfl
  sz := by kernel_rfl
  ze := fun z h => by cases h; exact ⟨by kernel_rfl, by kernel_rfl⟩
  int := fun k h => by cases h
  str := fun h => by cases h
  bool := fun h => by cases h
  sl := fun e s b z h => by cases h; exact ⟨by kernel_rfl, by kernel_rfl, by kernel_rfl, by decide, by kernel_rfl⟩
  st := fun pl h => by cases h
  ar := fun n s e h => by cases h
  mp := fun K V h => by cases h
  fl := fun pl h => by cases h
set_option maxRecDepth 100000 in
theorem ti_82 : TIok Try.prog 82 ⟨.st [(0, 1, true), (1, 1, true)], true, 2, (some [.pointer none, .slice none 0 0]), none⟩ where
  ptr := fun h => by cases h
  ks := fun l h => by cases h
  agg := by kernel_rfl
  sz := by kernel_rfl
  ze := fun z h => by cases h; exact ⟨by kernel_rfl, by kernel_rfl⟩
  int := fun k h => by cases h
  str := fun h => by cases h
  bool := fun h => by cases h
  sl := fun e s b z h => by cases h
  st := fun pl h => by cases h; kernel_rfl
  ar := fun n s e h => by cases h
  mp := fun K V h => by cases h
  fl := fun pl h => by cases h; kernel_rfl
set_option maxRecDepth 100000 in
theorem ti_90 : TIok Try.prog 90 ⟨.ar 2 2 31, true, 4, (some [.int .u32 0, .int .i64 0, .int .u32 0, .int .i64 0]), none⟩ where
  ptr := fun h => by cases h
  ks := fun l h => by cases h
  agg := by kernel_rfl
  sz := by kernel_rfl
  ze := fun z h => by cases h; exact ⟨by kernel_rfl, by kernel_rfl⟩
  int := fun k h => by cases h
  str := fun h => by cases h
  bool := fun h => by cases h
  sl := fun e s b z h => by cases h
  st := fun pl h => by cases h
  ar := fun n s e h => by cases h; exact ⟨by kernel_rfl, by kernel_rfl, by kernel_rfl⟩
  mp := fun K V h => by cases h
  fl := fun pl h => by cases h
set_option maxRecDepth 100000 in
theorem ti_95 : TIok Try.prog 95 ⟨.int .u64, false, 1, (some [.int .u64 0]), none⟩ where
  ptr := fun h => by cases h
  ks := fun l h => by cases h
  agg := by kernel_rfl
  sz := by kernel_rfl
  ze := fun z h => by cases h; exact ⟨by kernel_rfl, by kernel_rfl⟩
  int := fun k h => by cases h; kernel_rfl
  str := fun h => by cases h
  bool := fun h => by cases h
  sl := fun e s b z h => by cases h
  st := fun pl h => by cases h
  ar := fun n s e h => by cases h
  mp := fun K V h => by cases h
  fl := fun pl h => by cases h
set_option maxRecDepth 100000 in
theorem ti_98 : TIok Try.prog 98 ⟨.ptr, false, 1, (some [.pointer none]), none⟩ where
  ptr := fun h => ⟨5, by kernel_rfl⟩
  ks := fun l h => by cases h
  agg := by kernel_rfl
  sz := by kernel_rfl
  ze := fun z h => by cases h; exact ⟨by kernel_rfl, by kernel_rfl⟩
  int := fun k h => by cases h
  str := fun h => by cases h
  bool := fun h => by cases h
  sl := fun e s b z h => by cases h
  st := fun pl h => by cases h
  ar := fun n s e h => by cases h
  mp := fun K V h => by cases h
  fl := fun pl h => by cases h
set_option maxRecDepth 100000 in
theorem ti_99 : TIok Try.prog 99 ⟨.other, false, 1, (some [.pointer none]), none⟩ where
  ptr := fun h => by cases h
  ks := fun l h => by cases h
  agg := by kernel_rfl
  sz := by kernel_rfl
  ze := fun z h => by cases h; exact ⟨by kernel_rfl, by kernel_rfl⟩
  int := fun k h => by cases h
  str := fun h => by cases h
  bool := fun h => by cases h
  sl := fun e s b z h => by cases h
  st := fun pl h => by cases h
  ar := fun n s e h => by cases h
  mp := fun K V h => by cases h
  fl := fun pl h => by cases h
def tabT : TT := (.node 35 ⟨.int .i64, false, 1, (some [.int .i64 0]), none⟩ (.node 22 ⟨.sl 25 4 40 [.int .i64 0, .int .i64 0, .int .i64 0, .string ⟨#[]⟩], false, 1, (some [.slice none 0 0]), none⟩ (.node 5 ⟨.int .u8, false, 1, (some [.int .u8 0]), none⟩ (.node 3 ⟨.int .i64, false, 1, (some [.int .i64 0]), none⟩ (.node 2 ⟨.int .i64, false, 1, (some [.int .i64 0]), none⟩ .leaf .leaf) (.node 4 ⟨.bool, false, 1, (some [.bool false]), none⟩ .leaf .leaf)) (.node 11 ⟨.str, false, 1, (some [.string ⟨#[]⟩]), none⟩ (.node 9 ⟨.str, false, 1, (some [.string ⟨#[]⟩]), none⟩ .leaf .leaf) .leaf)) (.node 27 ⟨.mp 31 9, false, 1, (some [.map none]), none⟩ (.node 25 ⟨.st [(0, 1, true), (1, 1, true), (2, 1, true), (3, 1, true)], true, 4, (some [.int .i64 0, .int .i64 0, .int .i64 0, .string ⟨#[]⟩]), (some [.i .i64, .i .i64, .i .i64, .s])⟩ (.node 23 ⟨.int .u32, false, 1, (some [.int .u32 0]), none⟩ .leaf .leaf) (.node 26 ⟨.sl 50 4 40 [.int .u32 0, .int .i64 0, .string ⟨#[]⟩, .int .i64 0], false, 1, (some [.slice none 0 0]), none⟩ .leaf .leaf)) (.node 33 ⟨.sl 23 1 4 [.int .u32 0], false, 1, (some [.slice none 0 0]), none⟩ (.node 31 ⟨.st [(0, 1, true), (1, 1, true)], true, 2, (some [.int .u32 0, .int .i64 0]), (some [.i .u32, .i .i64])⟩ .leaf .leaf) .leaf))) (.node 79 ⟨.ptr, false, 1, (some [.pointer none]), none⟩ (.node 59 ⟨.ar 2 1 57, true, 2, (some [.pointer none, .pointer none]), none⟩ (.node 53 ⟨.sl 31 2 16 [.int .u32 0, .int .i64 0], false, 1, (some [.slice none 0 0]), none⟩ (.node 50 ⟨.st [(0, 2, false), (2, 1, true), (3, 1, true)], true, 4, (some [.int .u32 0, .int .i64 0, .string ⟨#[]⟩, .int .i64 0]), (some [.i .u32, .i .i64, .s, .i .i64])⟩ .leaf .leaf) (.node 57 ⟨.ptr, false, 1, (some [.pointer none]), none⟩ .leaf .leaf)) (.node 72 ⟨.int .u64, false, 1, (some [.int .u64 0]), none⟩ (.node 61 ⟨.st [(0, 2, false), (2, 1, true), (3, 2, false)], true, 5, (some [.int .u32 0, .int .i64 0, .string ⟨#[]⟩, .pointer none, .pointer none]), none⟩ .leaf .leaf) .leaf)) (.node 95 ⟨.int .u64, false, 1, (some [.int .u64 0]), none⟩ (.node 82 ⟨.st [(0, 1, true), (1, 1, true)], true, 2, (some [.pointer none, .slice none 0 0]), none⟩ (.node 80 ⟨.sl 5 1 1 [.int .u8 0], false, 1, (some [.slice none 0 0]), none⟩ .leaf .leaf) (.node 90 ⟨.ar 2 2 31, true, 4, (some [.int .u32 0, .int .i64 0, .int .u32 0, .int .i64 0]), none⟩ .leaf .leaf)) (.node 99 ⟨.other, false, 1, (some [.pointer none]), none⟩ (.node 98 ⟨.ptr, false, 1, (some [.pointer none]), none⟩ .leaf .leaf) .leaf))))
theorem tab_ok : tabT.ok Try.prog := ⟨ti_35, ⟨ti_22, ⟨ti_5, ⟨ti_3, ⟨ti_2, trivial, trivial⟩, ⟨ti_4, trivial, trivial⟩⟩, ⟨ti_11, ⟨ti_9, trivial, trivial⟩, trivial⟩⟩, ⟨ti_27, ⟨ti_25, ⟨ti_23, trivial, trivial⟩, ⟨ti_26, trivial, trivial⟩⟩, ⟨ti_33, ⟨ti_31, trivial, trivial⟩, trivial⟩⟩⟩, ⟨ti_79, ⟨ti_59, ⟨ti_53, ⟨ti_50, trivial, trivial⟩, ⟨ti_57, trivial, trivial⟩⟩, ⟨ti_72, ⟨ti_61, trivial, trivial⟩, trivial⟩⟩, ⟨ti_95, ⟨ti_82, ⟨ti_80, trivial, trivial⟩, ⟨ti_90, trivial, trivial⟩⟩, ⟨ti_99, ⟨ti_98, trivial, trivial⟩, trivial⟩⟩⟩⟩
end Go.Proofs.Ytcdoobkaobiacaa
