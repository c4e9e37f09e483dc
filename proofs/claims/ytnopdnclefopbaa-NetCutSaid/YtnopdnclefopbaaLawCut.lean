/- The network with n bits of an address contains the address and is contained in those with fewer bits: the statement NetCut holds of the program, for every input. No further condition. -/
import Derived.Test.YtnopdnclefopbaaRows
import Derived.Test.YtnopdnclefopbaaFrame
import Derived.Test.YtnopdnclefopbaaNetb
namespace Go.Proofs.Ytnopdnclefopbaa.netCut
open Go.ChangeShapes Go.WideShapes Go.ChangeAt Go.RowKit
open Go.ChangeMaps (open_string shut_string)
set_option linter.unusedVariables false

theorem below_via {w wm w1 : World} (h : Below w.heap.size w wm) (hb : Below wm.heap.size wm w1) : Below w.heap.size w w1 := h.trans (hb.mono h.size)

set_option maxRecDepth 100000 in
set_option maxHeartbeats 1600000 in
theorem walk (a : Nat) (n m : Int) (w : World) (ha : a < 4294967296) (hn : IntOk n) (hm : IntOk m) :
    Calls Try.prog 5 #[.int .u32 (a : Int), .int .i64 n, .int .i64 m] w fun e w' => e = .returned (.bool true) ∧ Below w.heap.size w w' := by
  obtain ⟨j, hj⟩ := Int.eq_ofNat_of_zero_le (ppick_pos (n := n) (m := 33) (by omega)).1
  have hj1 : j ≤ 32 := by have := (ppick_pos (n := n) (m := 33) (by omega)).2; omega
  obtain ⟨k, hk⟩ := Int.eq_ofNat_of_zero_le (ppick_pos (n := m) (m := 33) (by omega)).1
  have hk1 : k ≤ 32 := by have := (ppick_pos (n := m) (m := 33) (by omega)).2; omega
  have J := Lib.hid hj
  have K := Lib.hid hk
  have Hx := Lib.hid (phas_cut a j hj1)
  have Hy := Lib.hid (phas_cut a k hk1)
  have Hc := Lib.hid (pcheck_zero.2 (pcut_valid a j hj1))
  have lx := Nat.lt_of_le_of_lt (pcut_le a j) ha
  have ly := Nat.lt_of_le_of_lt (pcut_le a k) ha
  have hW : Below w.heap.size w w := Below.refl _ _
  clear hj hk
  go_enter Try.func5, Try.ntmps5
  go_wp2_with (first | (go_at_call 24; first | ((with_reducible refine (picked_is n 33 j _ J hn.1 hn.2 (by decide) (by decide)).mono ?_); rintro e w1 ⟨rfl, rfl⟩) | ((with_reducible refine (picked_is m 33 k _ K hm.1 hm.2 (by decide) (by decide)).mono ?_); rintro e w1 ⟨rfl, rfl⟩)) | (go_at_call 25; (with_reducible refine (of_any a j _ _ rfl ha hj1).mono ?_); rintro e w1 ⟨rfl, hb1⟩))
  with_reducible refine (of_any a k _ _ rfl ha hk1).mono ?_
  rintro e w2 ⟨rfl, hb2⟩
  have hw2 : Below w.heap.size w w2 := below_via (hb1.alloc hb1.size _) hb2
  have hs1 : w1.heap.size < w2.heap.size := by have := hb2.size; simp at this; omega
  have x0 : w2.cell? ⟨w1.heap.size, 0, none⟩ = some (.int .u32 (pcut a j : Int)) := keeps hb2 (cell_at rfl 0 rfl)
  have x1 : w2.cell? ⟨w1.heap.size, 1, none⟩ = some (.int .i64 (j : Int)) := keeps hb2 (cell_at rfl 1 rfl)
  go_wp2_with (fail)
  have c1_0 := cell_up (o := .cells #[.int .u32 (pcut a k : Int), .int .i64 (k : Int)] 26) x0
  have c1_1 := cell_up (o := .cells #[.int .u32 (pcut a k : Int), .int .i64 (k : Int)] 26) x1
  have c2_0 : (w2.alloc (.cells #[.int .u32 (pcut a k : Int), .int .i64 (k : Int)] 26)).cell? ⟨w2.heap.size, 0, none⟩ = some (.int .u32 (pcut a k : Int)) := cell_at rfl 0 rfl
  have c2_1 : (w2.alloc (.cells #[.int .u32 (pcut a k : Int), .int .i64 (k : Int)] 26)).cell? ⟨w2.heap.size, 1, none⟩ = some (.int .i64 (k : Int)) := cell_at rfl 1 rfl
  have l1 : w1.heap.size < (w2.alloc (.cells #[.int .u32 (pcut a k : Int), .int .i64 (k : Int)] 26)).heap.size := by simp; omega
  have l2 : w2.heap.size < (w2.alloc (.cells #[.int .u32 (pcut a k : Int), .int .i64 (k : Int)] 26)).heap.size := by simp
  have hw3 := hw2.alloc hw2.size (.cells #[.int .u32 (pcut a k : Int), .int .i64 (k : Int)] 26)
  clear hb1 hb2 x0 x1
  generalize w2.alloc (.cells #[.int .u32 (pcut a k : Int), .int .i64 (k : Int)] 26) = w0 at *
  have hB := Below.refl w0.heap.size w0
  clear hW
  by_cases hjk : k < j
  · go_wp2_with (first | (go_at_call 21; (with_reducible refine (has_is _ _ _ _ _ lx ha Hx).mono ?_); rintro e w1 ⟨rfl, hb⟩; have hB := below_step hB hb; have hc := (bcell hB).1) | (go_at_call 21; (with_reducible refine (has_is _ _ _ _ _ ly ha Hy).mono ?_); rintro e w1 ⟨rfl, hb⟩; have hB := below_step hB hb; have hc := (bcell hB).1) | (go_at_call 26; (with_reducible refine (check_is _ _ _ _ lx Hc).mono ?_); rintro e w1 ⟨rfl, hb⟩; have hB := below_step hB hb; have hc := (bcell hB).1))
    go_ret
    exact ⟨rfl, below_via hw3 hB⟩
  · have Hxy := Lib.hid (pholds_cut a j k (by omega) hk1)
    go_wp2_with (first | (go_at_call 21; (with_reducible refine (has_is _ _ _ _ _ lx ha Hx).mono ?_); rintro e w1 ⟨rfl, hb⟩; have hB := below_step hB hb; have hc := (bcell hB).1) | (go_at_call 21; (with_reducible refine (has_is _ _ _ _ _ ly ha Hy).mono ?_); rintro e w1 ⟨rfl, hb⟩; have hB := below_step hB hb; have hc := (bcell hB).1) | (go_at_call 26; (with_reducible refine (check_is _ _ _ _ lx Hc).mono ?_); rintro e w1 ⟨rfl, hb⟩; have hB := below_step hB hb; have hc := (bcell hB).1) | (go_at_call 20; (with_reducible refine (holds_is _ _ _ _ _ _ lx ly Hxy).mono ?_); rintro e w1 ⟨rfl, hb⟩; have hB := below_step hB hb; have hc := (bcell hB).1))
    go_ret
    exact ⟨rfl, below_via hw3 hB⟩

set_option maxRecDepth 100000 in
theorem lifted (os : Os) (started : os.Started) (H : Type) (enc : TypeId × Value → H) :
    ReturnsInHanded {} Try.checked os 5 .any (Rows.netCutSpec.pre6 enc Try.prog Try.f5 Rows.netCutRow.domain false) (Rows.netCutSpec.post enc Try.prog Try.f5 false true false false) := by
  refine returnsInHanded_of_change (C := Try.checked) own started (by kernel_rfl) Try.func5
    (ChangeSpec.witness6 (enc := enc) (C := Try.checked) false ⟨#[], #[.int .u32 0, .int .i64 0, .int .i64 0], []⟩ 8 (by kernel_rfl) (by kernel_rfl) (by kernel_rfl) (by kernel_rfl)) ?_
  intro W base args ds gs before hval0 hW hcnd _
  have hval : ∀ (j : Nat) t v, Try.f5.params[j]? = some t → args[j]? = some v → Value.okWide Try.prog W .any base t v := hval0
  have hW' := hW
  obtain ⟨p, q, hA0, hV, rfl, hfz, hnd⟩ := hW
  have hA : DataW.TrodAll enc Try.prog W 0 (fun _ => true) true Try.f5.params.toList args.toList ds p := hA0
  rw [Try.params5] at hA hval
  obtain ⟨v0, vs0, d0, ds0, p0, q0, hargs, rfl, rfl, h0, r0⟩ := trodAll_cons hA
  obtain ⟨v1, vs1, d1, ds1, p1, q1, rfl, rfl, rfl, h1, r1⟩ := trodAll_cons r0
  obtain ⟨v2, vs2, d2, ds2, p2, q2, rfl, rfl, rfl, h2, r2⟩ := trodAll_cons r1
  obtain ⟨rfl, rfl, rfl⟩ := trodAll_nil r2
  obtain rfl : args = #[v0, v1, v2] := by cases args; simp_all
  obtain ⟨rfl, rfl⟩ := trodVars_none hV
  have k0 := h0
  have lt0 : ∀ x ∈ p0, x.block < W.heap.size := by obtain ⟨m, hm⟩ := k0; exact DataW.trod_lt m _ _ _ hm
  have k1 := h1
  have lt1 : ∀ x ∈ p1, x.block < W.heap.size := by obtain ⟨m, hm⟩ := k1; exact DataW.trod_lt m _ _ _ hm
  have k2 := h2
  have lt2 : ∀ x ∈ p2, x.block < W.heap.size := by obtain ⟨m, hm⟩ := k2; exact DataW.trod_lt m _ _ _ hm
  obtain ⟨n0, rfl, _, _, wn0⟩ := open_int Try.underlying24 (hval 0 _ v0 rfl rfl) h0
  obtain ⟨x0, rfl, lx0⟩ := u32_wf wn0
  obtain ⟨n1, rfl, _, _, wn1⟩ := open_int Try.underlying3 (hval 1 _ v1 rfl rfl) h1
  have okn1 := intOk_wf wn1
  obtain ⟨n2, rfl, _, _, wn2⟩ := open_int Try.underlying3 (hval 2 _ v2 rfl rfl) h2
  have okn2 := intOk_wf wn2
  clear hA0 hval0
  refine (walk x0 n1 n2 W lx0 okn1 okn2).mono fun e W9 ⟨he, bel⟩ => ?_
  subst he
  exact ⟨_, rfl, _, _, _, [], _, [], hW', trodAll_mk1 (shut_bool Try.underlying4 _), (trodAll_cons_mk (Below.trod laidOut (by kernel_rfl) (of_decide_eq_true (by kernel_rfl)) k0 bel lt0) (trodAll_cons_mk (Below.trod laidOut (by kernel_rfl) (of_decide_eq_true (by kernel_rfl)) k1 bel lt1) (trodAll_cons_mk (Below.trod laidOut (by kernel_rfl) (of_decide_eq_true (by kernel_rfl)) k2 bel lt2) trodAll_mk0))), rfl, bel.frame _, fun h => by cases h⟩

theorem over : Rows.netCutRow.holds Try.pinned (OpenSpec.ofChange Rows.netCutSpec) :=
  OpenClaim.holds_of_wide 5 Try.f5 rfl rfl rfl rfl rfl rfl rfl ⟨rfl, rfl, rfl, rfl, rfl⟩ rfl rfl rfl rfl rfl (by kernel_rfl) Try.func5 (by kernel_rfl)
    (of_decide_eq_true (by kernel_rfl)) (by unfold Func.isWrapper; first | (rw [if_pos (by decide +kernel)]; kernel_rfl) | (rw [if_neg (by decide +kernel)]; exact ⟨rfl, rfl⟩))
    (fun os started H enc _ => lifted os started H enc)

theorem proved : Rows.NetCutSaid := over
#print axioms proved
end Go.Proofs.Ytnopdnclefopbaa.netCut
