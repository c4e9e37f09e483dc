/- PacketBack: decoding the encoding of a packet returns the packet: the statement holds of the program, for every input. No further condition. -/
import Derived.Test.YtnopdnclefopbaaPke
import Derived.Test.YtnopdnclefopbaaFrame
namespace Go.Proofs.Ytnopdnclefopbaa.packetBack
open Go.ChangeShapes Go.WideShapes Go.ChangeAt Go.RowKit
open Go.ChangeMaps (open_string shut_string)
set_option linter.unusedVariables false

set_option maxRecDepth 100000 in
set_option maxHeartbeats 1600000 in
theorem walk (e : Bool) (k a b : Int) (s : ByteArray) (w : World) (h1 : IntOk k) (h2 : IntOk a) (h3 : IntOk b) (hs : s.size ≤ maxLen) :
    Calls Try.prog 9 #[.bool e, rawV k a b s] w fun e w' => e = .returned (.bool true) ∧ Below w.heap.size w w' := by
  have p1 := ppick_pos (n := a) (m := 65536) (by omega)
  have p2 := ppick_pos (n := b) (m := 65536) (by omega)
  have C := Lib.hid (fun n w hn => packet_any e n k a b s w hn h2 h3 hs)
  obtain ⟨src, hsrc⟩ : ∃ x, x = pkA e + (ppick a 65536).toNat := ⟨_, rfl⟩
  obtain ⟨dst, hdst⟩ : ∃ x, x = pkA (!e) + (ppick b 65536).toNat := ⟨_, rfl⟩
  obtain ⟨d, hd⟩ : ∃ d, d = s.data.toList.take 40 := ⟨_, rfl⟩
  have ls : src < 4294967296 := by rw [hsrc]; unfold pkA; split <;> omega
  have lt : dst < 4294967296 := by rw [hdst]; unfold pkA; split <;> omega
  have ld : d.length ≤ 40 := by rw [hd, List.length_take]; omega
  rw [← hsrc, ← hdst, ← hd] at C
  clear hsrc hdst hd p1 p2
  cases e
  all_goals
   go_enter Try.func9, Try.ntmps9
   go_wp2_with (fail)
   have hw : Below w.heap.size w (w.alloc (Obj.cells #[.int .i64 k, .int .i64 a, .int .i64 b, .string s] 23)) := ((Below.refl w.heap.size w).alloc (by first | exact Nat.le_refl _ | (simp; done) | (simp; omega)) _)
   have hc0_0 : (w.alloc (Obj.cells #[.int .i64 k, .int .i64 a, .int .i64 b, .string s] 23)).cell? ⟨w.heap.size, 0, none⟩ = some (.int .i64 k) := cell_at (by first | rfl | simp) 0 rfl
   have hc0_1 : (w.alloc (Obj.cells #[.int .i64 k, .int .i64 a, .int .i64 b, .string s] 23)).cell? ⟨w.heap.size, 1, none⟩ = some (.int .i64 a) := cell_at (by first | rfl | simp) 1 rfl
   have hc0_2 : (w.alloc (Obj.cells #[.int .i64 k, .int .i64 a, .int .i64 b, .string s] 23)).cell? ⟨w.heap.size, 2, none⟩ = some (.int .i64 b) := cell_at (by first | rfl | simp) 2 rfl
   have hc0_3 : (w.alloc (Obj.cells #[.int .i64 k, .int .i64 a, .int .i64 b, .string s] 23)).cell? ⟨w.heap.size, 3, none⟩ = some (.string s) := cell_at (by first | rfl | simp) 3 rfl
   have hs0 : w.heap.size < (w.alloc (Obj.cells #[.int .i64 k, .int .i64 a, .int .i64 b, .string s] 23)).heap.size := by simp <;> omega
   have hz0 : ∀ o, (w.alloc (Obj.cells #[.int .i64 k, .int .i64 a, .int .i64 b, .string s] 23)).frozen? ⟨w.heap.size, o, none⟩ = false := fun o => froz_at (by first | rfl | simp) o
   generalize (w.alloc (Obj.cells #[.int .i64 k, .int .i64 a, .int .i64 b, .string s] 23)) = w0 at *
   have hB : Below w0.heap.size w0 w0 := Below.refl _ _
   go_wp2_with (go_at_call 30; (with_reducible refine (C.out _ _ (by decide)).mono ?_); rintro e w1 ⟨v, rfl, hn, hb1⟩; obtain ⟨av, mv, cv, rfl⟩ := hn.slice; replace hn := hn.1; have hW := hw.trans (hb1.mono hw.size))
   have hw2 : Below w1.heap.size w1 (w1.alloc (Obj.cells #[.int .u32 (src : Int), .int .u32 (dst : Int), .slice av mv cv] 48)) := below_alloc _ _
   have p0 : (w1.alloc (Obj.cells #[.int .u32 (src : Int), .int .u32 (dst : Int), .slice av mv cv] 48)).cell? ⟨w1.heap.size, 0, none⟩ = some (.int .u32 (src : Int)) := cell_at rfl 0 rfl
   have p1 : (w1.alloc (Obj.cells #[.int .u32 (src : Int), .int .u32 (dst : Int), .slice av mv cv] 48)).cell? ⟨w1.heap.size, 1, none⟩ = some (.int .u32 (dst : Int)) := cell_at rfl 1 rfl
   have p2 : (w1.alloc (Obj.cells #[.int .u32 (src : Int), .int .u32 (dst : Int), .slice av mv cv] 48)).cell? ⟨w1.heap.size, 2, none⟩ = some (.slice av mv cv) := cell_at rfl 2 rfl
   have ps : w1.heap.size < (w1.alloc (Obj.cells #[.int .u32 (src : Int), .int .u32 (dst : Int), .slice av mv cv] 48)).heap.size := by simp
   have pz : ∀ o, (w1.alloc (Obj.cells #[.int .u32 (src : Int), .int .u32 (dst : Int), .slice av mv cv] 48)).frozen? ⟨w1.heap.size, o, none⟩ = false := fun o => froz_at rfl o
   generalize (w1.alloc (Obj.cells #[.int .u32 (src : Int), .int .u32 (dst : Int), .slice av mv cv] 48)) = w2 at *
   replace hn := hn.below hw2
   replace hW := hW.trans (hw2.mono hW.size)
   refine (encode_ok _ _ _ _ _ ls lt hn (by omega)).mono ?_
   rintro e w3 ⟨p3, rfl, ho3, hb3⟩
   (replace p0 := keeps hb3 p0; replace p1 := keeps hb3 p1; replace p2 := keeps hb3 p2; replace pz := fun o => keepsF hb3 ps (pz o); replace ps := Nat.lt_of_lt_of_le ps hb3.size)
   replace hn := hn.below hb3
   replace hW := hW.trans (hb3.mono hW.size)
   rw [pkEnc_length] at ho3
   obtain ⟨g3, c3, rfl⟩ := owns_pos ho3 (by omega)
   replace ho3 := owns_bytes ho3
   go_wp2_with (fail)
   refine (decode_enc _ _ _ _ _ ho3 ls lt (by omega)).mono ?_
   rintro e w4 ⟨v4, rfl, ho4, hb4⟩
   (replace p0 := keeps hb4 p0; replace p1 := keeps hb4 p1; replace p2 := keeps hb4 p2; replace pz := fun o => keepsF hb4 ps (pz o); replace ps := Nat.lt_of_lt_of_le ps hb4.size)
   replace hn := hn.below hb4
   replace hW := hW.trans (hb4.mono hW.size)
   obtain ⟨a4, m4, c4, rfl⟩ := owns_slice ho4
   replace ho4 := owns_bytes ho4
   go_wp2_with (fail)
   have hw5 : Below w4.heap.size w4 (w4.alloc (Obj.cells #[.int .u32 (src : Int), .int .u32 (dst : Int), .slice a4 m4 c4] 48)) := below_alloc _ _
   have q0 : (w4.alloc (Obj.cells #[.int .u32 (src : Int), .int .u32 (dst : Int), .slice a4 m4 c4] 48)).cell? ⟨w4.heap.size, 0, none⟩ = some (.int .u32 (src : Int)) := cell_at rfl 0 rfl
   have q1 : (w4.alloc (Obj.cells #[.int .u32 (src : Int), .int .u32 (dst : Int), .slice a4 m4 c4] 48)).cell? ⟨w4.heap.size, 1, none⟩ = some (.int .u32 (dst : Int)) := cell_at rfl 1 rfl
   have q2 : (w4.alloc (Obj.cells #[.int .u32 (src : Int), .int .u32 (dst : Int), .slice a4 m4 c4] 48)).cell? ⟨w4.heap.size, 2, none⟩ = some (.slice a4 m4 c4) := cell_at rfl 2 rfl
   have qs : w4.heap.size < (w4.alloc (Obj.cells #[.int .u32 (src : Int), .int .u32 (dst : Int), .slice a4 m4 c4] 48)).heap.size := by simp
   have qz : ∀ o, (w4.alloc (Obj.cells #[.int .u32 (src : Int), .int .u32 (dst : Int), .slice a4 m4 c4] 48)).frozen? ⟨w4.heap.size, o, none⟩ = false := fun o => froz_at rfl o
   generalize (w4.alloc (Obj.cells #[.int .u32 (src : Int), .int .u32 (dst : Int), .slice a4 m4 c4] 48)) = w5 at *
   (replace p0 := keeps hw5 p0; replace p1 := keeps hw5 p1; replace p2 := keeps hw5 p2; replace pz := fun o => keepsF hw5 ps (pz o); replace ps := Nat.lt_of_lt_of_le ps hw5.size)
   replace hn := hn.below hw5
   replace ho4 := ho4.below hw5
   replace hW := hW.trans (hw5.mono hW.size)
   have hmv := hn.len
   subst hmv
   refine (samePacket_eq src dst _ _ d _ hn ho4).mono ?_
   rintro e w6 ⟨rfl, hb6⟩
   (replace p0 := keeps hb6 p0; replace p1 := keeps hb6 p1; replace p2 := keeps hb6 p2; replace pz := fun o => keepsF hb6 ps (pz o); replace ps := Nat.lt_of_lt_of_le ps hb6.size)
   replace hW := hW.trans (hb6.mono hW.size)
   go_wp2_with (fail)
   go_ret
   exact ⟨rfl, hW⟩

set_option maxRecDepth 100000 in
theorem lifted (os : Os) (started : os.Started) (H : Type) (enc : TypeId × Value → H) :
    ReturnsInHanded {} Try.checked os 9 .any (Rows.packetBackSpec.pre6 enc Try.prog Try.f9 Rows.packetBackRow.domain false) (Rows.packetBackSpec.post enc Try.prog Try.f9 false true false false) := by
  refine returnsInHanded_of_change (C := Try.checked) own started (by kernel_rfl) Try.func9
    (ChangeSpec.witness6 (enc := enc) (C := Try.checked) false ⟨#[], #[.bool false, .agg #[.int .i64 0, .int .i64 0, .int .i64 0, .string ⟨#[]⟩]], []⟩ 8 (by kernel_rfl) (by kernel_rfl) (by kernel_rfl) (by kernel_rfl)) ?_
  intro W base args ds gs before hval0 hW hcnd _
  have hval : ∀ (j : Nat) t v, Try.f9.params[j]? = some t → args[j]? = some v → Value.okWide Try.prog W .any base t v := hval0
  have hW' := hW
  obtain ⟨p, q, hA0, hV, rfl, hfz, hnd⟩ := hW
  have hA : DataW.TrodAll enc Try.prog W 0 (fun _ => true) true Try.f9.params.toList args.toList ds p := hA0
  rw [Try.params9] at hA hval
  obtain ⟨v0, vs0, d0, ds0, p0, q0, hargs, rfl, rfl, h0, r0⟩ := trodAll_cons hA
  obtain ⟨v1, vs1, d1, ds1, p1, q1, rfl, rfl, rfl, h1, r1⟩ := trodAll_cons r0
  obtain ⟨rfl, rfl, rfl⟩ := trodAll_nil r1
  obtain rfl : args = #[v0, v1] := by cases args; simp_all
  obtain ⟨rfl, rfl⟩ := trodVars_none hV
  have k0 := h0
  have lt0 : ∀ x ∈ p0, x.block < W.heap.size := by obtain ⟨m, hm⟩ := k0; exact DataW.trod_lt m _ _ _ hm
  have k1 := h1
  have lt1 : ∀ x ∈ p1, x.block < W.heap.size := by obtain ⟨m, hm⟩ := k1; exact DataW.trod_lt m _ _ _ hm
  obtain ⟨b0, rfl, _, _⟩ := open_bool Try.underlying4 (hval 0 _ v0 rfl rfl) h0
  obtain ⟨rk1, ra1, rb1, rs1, rfl, ok0_1, ok1_1, ok2_1, len1⟩ := open_raw (hval 1 _ v1 rfl rfl) h1
  clear hA0 hval0
  refine (walk b0 rk1 ra1 rb1 rs1 W ok0_1 ok1_1 ok2_1 len1).mono fun e W9 ⟨he, bel⟩ => ?_
  subst he
  exact ⟨_, rfl, _, _, _, [], _, [], hW', trodAll_mk1 (shut_bool Try.underlying4 _), (trodAll_cons_mk (Below.trod laidOut (by kernel_rfl) (of_decide_eq_true (by kernel_rfl)) k0 bel lt0) (trodAll_cons_mk (Below.trod laidOut (by kernel_rfl) (of_decide_eq_true (by kernel_rfl)) k1 bel lt1) trodAll_mk0)), rfl, bel.frame _, fun h => by cases h⟩

theorem over : Rows.packetBackRow.holds Try.pinned (OpenSpec.ofChange Rows.packetBackSpec) :=
  OpenClaim.holds_of_wide 9 Try.f9 rfl rfl rfl rfl rfl rfl rfl ⟨rfl, rfl, rfl, rfl, rfl⟩ rfl rfl rfl rfl rfl (by kernel_rfl) Try.func9 (by kernel_rfl)
    (of_decide_eq_true (by kernel_rfl)) (by unfold Func.isWrapper; first | (rw [if_pos (by decide +kernel)]; kernel_rfl) | (rw [if_neg (by decide +kernel)]; exact ⟨rfl, rfl⟩))
    (fun os started H enc _ => lifted os started H enc)

theorem proved : Rows.PacketBackSaid := over
#print axioms proved
end Go.Proofs.Ytnopdnclefopbaa.packetBack
