/- WindowFree: a counter that has not been received and is not too old is accepted: the statement holds of the program, for every input. No further condition. -/
import Derived.Test.YtnopdnclefopbaaLawWin
import Derived.Test.YtnopdnclefopbaaFrameI
import Derived.IntWalk
namespace Go.Proofs.Ytnopdnclefopbaa.windowFree
open Go.ChangeShapes Go.WideShapes Go.ChangeAt Go.RowKit
open Go.ChangeMaps (open_string shut_string)
set_option linter.unusedVariables false

set_option maxRecDepth 100000 in
set_option maxHeartbeats 1600000 in
theorem walk (v : Value) (l : List Int) (x : Int) (w : World) (hb : Ints w v l) (hok : ∀ x ∈ l, IntOk x) (hx : IntOk x) : Calls Try.prog 13 #[v, .int .i64 x] w fun e w' => e = .returned (.bool true) ∧ Below w.heap.size w w' := by
  have T := Lib.hid (taken_any v l w hb hok)
  obtain ⟨a, c, rfl, -⟩ := hb
  clear hok
  go_enter Try.func13, Try.ntmps13
  go_wp2_with (fail)
  refine T.out.mono ?_
  rintro e w1 ⟨s, m, b, p, came, rfl, hR, h200, ho, hW⟩
  have hko := rep_ok hR (fun c hc => by have := h200 c hc; omega)
  obtain ⟨ca, n, cc, rfl⟩ := owns_slice ho
  have hlen := ho.1
  have hI := owns_ints ho
  have hnn : n = came.length := by
    obtain ⟨a', c', e, _⟩ := hI
    injection e with e1 e2 e3
    rw [e2, List.length_map]
  subst hnn
  have HR := Lib.hid hR
  clear T hlen hR ho
  have hlm : came.length ≤ maxLen := by
    obtain ⟨a', c', e, g2, g3, _⟩ := hI
    rw [List.length_map] at g2; omega
  unfold maxLen at hlm
  have p3 := ppick_pos (n := x) (m := (200 : Int)) (by omega)
  obtain ⟨n, hq⟩ := Int.eq_ofNat_of_zero_le p3.1
  have hn2 : n < 200 := by omega
  have Q := Lib.hid hq
  clear p3 hq
  obtain ⟨IS, hIS⟩ : ∃ IS, vHas s m b n = IS := ⟨_, rfl⟩
  have H := Lib.hid (fun w => seenHas_any s m b n IS w hko (by omega) (Lib.hid hIS))
  have hlate := rep_has HR.out n
  rw [hIS] at hlate
  obtain ⟨CT, hCT⟩ : ∃ CT : Bool, CT = (came.map fun c : Nat => (c : Int)).contains (n : Int) := ⟨_, rfl⟩
  have CC := Lib.hid (fun w hb => hCT ▸ contains_ints (w := w) (v := .slice ca came.length cc) (l := came.map fun c : Nat => (c : Int)) (n : Int) hb)
  have hCT2 : CT = true ↔ n ∈ came := by rw [hCT, List.contains_iff_mem, List.mem_map]; exact ⟨fun ⟨c, h1, h2⟩ => by rw [← Int.ofNat.inj h2]; exact h1, fun h => ⟨n, h, rfl⟩⟩
  have HI := Lib.hid hI
  -- the cases: nothing came; n came; n did not come and is too old, or is not
  have hcase : (came.length = 0 ∧ CT = false ∧ IS = false) ∨ (CT = true ∧ IS = true) ∨
      (CT = false ∧ 0 < came.length ∧ m < 200 ∧ IS = decide ((64 : Int) ≤ (m : Int) - (n : Int)) ∧ Hid (∀ w, Ints w (.slice ca came.length cc) (came.map fun c : Nat => (c : Int)) → Calls Try.prog 39 #[.slice ca came.length cc] w fun e w' => e = .returned (.int .i64 (m : Int)) ∧ w = w')) := by
    rcases HR.out with ⟨h1, _⟩ | ⟨_, h1, h2, _⟩
    · left
      refine ⟨by rw [h1]; rfl, ?_, ?_⟩
      · cases hc : CT with
        | false => rfl
        | true => have := hCT2.1 hc; rw [h1] at this; cases this
      · cases hc : IS with
        | false => rfl
        | true => have := hlate.1 hc; rw [h1] at this; unfold isLate at this; simp at this
    · right
      by_cases hm : n ∈ came
      · exact .inl ⟨hCT2.2 hm, hlate.2 (.inl hm)⟩
      · right
        refine ⟨?_, List.length_pos_of_mem h1, h200 _ h1, ?_, Lib.hid fun w hI => max_ints m hI h1 h2⟩
        · cases hc : CT with
          | false => rfl
          | true => exact absurd (hCT2.1 hc) hm
        · rw [Bool.eq_iff_iff, hlate, decide_eq_true_iff]
          constructor
          · rintro (h | ⟨c, h3, h4⟩)
            · exact absurd h hm
            · have := h2 _ h3; omega
          · intro h; exact .inr ⟨m, h1, by omega⟩
  clear hI hCT hCT2 hlate hIS HR hko h200
  rcases hcase with ⟨hl, rfl, rfl⟩ | ⟨rfl, rfl⟩ | ⟨rfl, hl, hm, rfl, M⟩
  · have hl2 : ¬ 0 < came.length := by omega
    have hl3 : decide (0 < came.length) = false := decide_eq_false hl2
    clear hl
    go_wp2_with (fail)
    have hw2 : Below w1.heap.size w1 (w1.alloc (Obj.cells #[.bool s, .int .i64 (m : Int), .int .u64 (b : Int)] 58)) := below_alloc _ _
    have p0 : (w1.alloc (Obj.cells #[.bool s, .int .i64 (m : Int), .int .u64 (b : Int)] 58)).cell? ⟨w1.heap.size, 0, none⟩ = some (.bool s) := cell_at rfl 0 rfl
    have p1 : (w1.alloc (Obj.cells #[.bool s, .int .i64 (m : Int), .int .u64 (b : Int)] 58)).cell? ⟨w1.heap.size, 1, none⟩ = some (.int .i64 (m : Int)) := cell_at rfl 1 rfl
    have p2 : (w1.alloc (Obj.cells #[.bool s, .int .i64 (m : Int), .int .u64 (b : Int)] 58)).cell? ⟨w1.heap.size, 2, none⟩ = some (.int .u64 (b : Int)) := cell_at rfl 2 rfl
    have ps : w1.heap.size < (w1.alloc (Obj.cells #[.bool s, .int .i64 (m : Int), .int .u64 (b : Int)] 58)).heap.size := by simp
    have pz : ∀ o, (w1.alloc (Obj.cells #[.bool s, .int .i64 (m : Int), .int .u64 (b : Int)] 58)).frozen? ⟨w1.heap.size, o, none⟩ = false := fun o => froz_at rfl o
    generalize (w1.alloc (Obj.cells #[.bool s, .int .i64 (m : Int), .int .u64 (b : Int)] 58)) = w2 at *
    replace hW := hW.trans (hw2.mono hW.size)
    have HI := Lib.hid (HI.out.below hw2)
    refine (picked_is _ _ _ _ Q hx.1 hx.2 (by decide) (by decide)).mono ?_
    rintro e w5 ⟨rfl, rfl⟩
    go_wp2_with (fail)
    refine (H.out _).mono ?_
    rintro e w3 ⟨rfl, hb3⟩
    replace hW := hW.trans (hb3.mono hW.size)
    have HI := Lib.hid (HI.out.below hb3)
    clear hb3
    go_wp2_with (fail)
    refine (CC.out _ HI.out).mono ?_
    rintro e w4 ⟨rfl, rfl⟩
    go_wp2_with (fail)
    go_ret
    exact ⟨by simp, hW⟩
  · go_wp2_with (fail)
    have hw2 : Below w1.heap.size w1 (w1.alloc (Obj.cells #[.bool s, .int .i64 (m : Int), .int .u64 (b : Int)] 58)) := below_alloc _ _
    have p0 : (w1.alloc (Obj.cells #[.bool s, .int .i64 (m : Int), .int .u64 (b : Int)] 58)).cell? ⟨w1.heap.size, 0, none⟩ = some (.bool s) := cell_at rfl 0 rfl
    have p1 : (w1.alloc (Obj.cells #[.bool s, .int .i64 (m : Int), .int .u64 (b : Int)] 58)).cell? ⟨w1.heap.size, 1, none⟩ = some (.int .i64 (m : Int)) := cell_at rfl 1 rfl
    have p2 : (w1.alloc (Obj.cells #[.bool s, .int .i64 (m : Int), .int .u64 (b : Int)] 58)).cell? ⟨w1.heap.size, 2, none⟩ = some (.int .u64 (b : Int)) := cell_at rfl 2 rfl
    have ps : w1.heap.size < (w1.alloc (Obj.cells #[.bool s, .int .i64 (m : Int), .int .u64 (b : Int)] 58)).heap.size := by simp
    have pz : ∀ o, (w1.alloc (Obj.cells #[.bool s, .int .i64 (m : Int), .int .u64 (b : Int)] 58)).frozen? ⟨w1.heap.size, o, none⟩ = false := fun o => froz_at rfl o
    generalize (w1.alloc (Obj.cells #[.bool s, .int .i64 (m : Int), .int .u64 (b : Int)] 58)) = w2 at *
    replace hW := hW.trans (hw2.mono hW.size)
    have HI := Lib.hid (HI.out.below hw2)
    refine (picked_is _ _ _ _ Q hx.1 hx.2 (by decide) (by decide)).mono ?_
    rintro e w5 ⟨rfl, rfl⟩
    go_wp2_with (fail)
    refine (H.out _).mono ?_
    rintro e w3 ⟨rfl, hb3⟩
    replace hW := hW.trans (hb3.mono hW.size)
    have HI := Lib.hid (HI.out.below hb3)
    clear hb3
    go_wp2_with (fail)
    refine (CC.out _ HI.out).mono ?_
    rintro e w4 ⟨rfl, rfl⟩
    go_wp2_with (fail)
    go_ret
    exact ⟨by simp, hW⟩
  · by_cases hg : (64 : Int) ≤ (m : Int) - (n : Int)
    all_goals
     have hg2 := hg
     have hl3 : decide (0 < came.length) = true := decide_eq_true hl
     go_wp2_with (fail)
     have hw2 : Below w1.heap.size w1 (w1.alloc (Obj.cells #[.bool s, .int .i64 (m : Int), .int .u64 (b : Int)] 58)) := below_alloc _ _
     have p0 : (w1.alloc (Obj.cells #[.bool s, .int .i64 (m : Int), .int .u64 (b : Int)] 58)).cell? ⟨w1.heap.size, 0, none⟩ = some (.bool s) := cell_at rfl 0 rfl
     have p1 : (w1.alloc (Obj.cells #[.bool s, .int .i64 (m : Int), .int .u64 (b : Int)] 58)).cell? ⟨w1.heap.size, 1, none⟩ = some (.int .i64 (m : Int)) := cell_at rfl 1 rfl
     have p2 : (w1.alloc (Obj.cells #[.bool s, .int .i64 (m : Int), .int .u64 (b : Int)] 58)).cell? ⟨w1.heap.size, 2, none⟩ = some (.int .u64 (b : Int)) := cell_at rfl 2 rfl
     have ps : w1.heap.size < (w1.alloc (Obj.cells #[.bool s, .int .i64 (m : Int), .int .u64 (b : Int)] 58)).heap.size := by simp
     have pz : ∀ o, (w1.alloc (Obj.cells #[.bool s, .int .i64 (m : Int), .int .u64 (b : Int)] 58)).frozen? ⟨w1.heap.size, o, none⟩ = false := fun o => froz_at rfl o
     generalize (w1.alloc (Obj.cells #[.bool s, .int .i64 (m : Int), .int .u64 (b : Int)] 58)) = w2 at *
     replace hW := hW.trans (hw2.mono hW.size)
     have HI := Lib.hid (HI.out.below hw2)
     refine (picked_is _ _ _ _ Q hx.1 hx.2 (by decide) (by decide)).mono ?_
     rintro e w5 ⟨rfl, rfl⟩
     go_wp2_with (fail)
     refine (H.out _).mono ?_
     rintro e w3 ⟨rfl, hb3⟩
     replace hW := hW.trans (hb3.mono hW.size)
     have HI := Lib.hid (HI.out.below hb3)
     clear hb3
     go_wp2_with (fail)
     refine (CC.out _ HI.out).mono ?_
     rintro e w4 ⟨rfl, rfl⟩
     go_wp2_with (fail)
     refine (M.out _ HI.out).mono ?_
     rintro e w6 ⟨rfl, rfl⟩
     go_wp2_with (fail)
     go_ret
     exact ⟨by simp, hW⟩

set_option maxRecDepth 100000 in
theorem lifted (os : Os) (started : os.Started) (H : Type) (enc : TypeId × Value → H) :
    ReturnsInHanded {} Try.checked os 13 .any (Rows.windowFreeSpec.pre6 enc Try.prog Try.f13 Rows.windowFreeRow.domain false) (Rows.windowFreeSpec.post enc Try.prog Try.f13 false true false false) := by
  refine returnsInHanded_of_change (C := Try.checked) own started (by kernel_rfl) Try.func13
    (ChangeSpec.witness6 (enc := enc) (C := Try.checked) false ⟨#[], #[.slice none 0 0, .int .i64 0], []⟩ 8 (by kernel_rfl) (by kernel_rfl) (by kernel_rfl) (by kernel_rfl)) ?_
  intro W base args ds gs before hval0 hW hcnd _
  have hval : ∀ (j : Nat) t v, Try.f13.params[j]? = some t → args[j]? = some v → Value.okWide Try.prog W .any base t v := hval0
  have hW' := hW
  obtain ⟨p, q, hA0, hV, rfl, hfz, hnd⟩ := hW
  have hA : DataW.TrodAll enc Try.prog W 0 (fun _ => true) true Try.f13.params.toList args.toList ds p := hA0
  rw [Try.params13] at hA hval
  obtain ⟨v0, vs0, d0, ds0, p0, q0, hargs, rfl, rfl, h0, r0⟩ := trodAll_cons hA
  obtain ⟨v1, vs1, d1, ds1, p1, q1, rfl, rfl, rfl, h1, r1⟩ := trodAll_cons r0
  obtain ⟨rfl, rfl, rfl⟩ := trodAll_nil r1
  obtain rfl : args = #[v0, v1] := by cases args; simp_all
  obtain ⟨rfl, rfl⟩ := trodVars_none hV
  have k0 := h0
  have lt0 : ∀ x ∈ p0, x.block < W.heap.size := by obtain ⟨m, hm⟩ := k0; exact DataW.trod_lt m _ _ _ hm
  have k1 := h1
  have lt1 : ∀ x ∈ p1, x.block < W.heap.size := by obtain ⟨m, hm⟩ := k1; exact DataW.trod_lt m _ _ _ hm
  obtain ⟨a0, len0, cap0, z0, rfl, w0l, w0⟩ := open_introw (hval 0 _ v0 rfl rfl) h0
  obtain ⟨n1, rfl, _, _, wn1⟩ := open_int Try.underlying3 (hval 1 _ v1 rfl rfl) h1
  have okn1 := intOk_wf wn1
  clear hA0 hval0
  refine (walk _ z0 n1 W w0.1 w0.2 okn1).mono fun e W9 ⟨he, bel⟩ => ?_
  subst he
  exact ⟨_, rfl, _, _, _, [], _, [], hW', trodAll_mk1 (shut_bool Try.underlying4 _), (trodAll_cons_mk (Below.trod laidOut (by kernel_rfl) (of_decide_eq_true (by kernel_rfl)) k0 bel lt0) (trodAll_cons_mk (Below.trod laidOut (by kernel_rfl) (of_decide_eq_true (by kernel_rfl)) k1 bel lt1) trodAll_mk0)), rfl, bel.frame _, fun h => by cases h⟩

theorem over : Rows.windowFreeRow.holds Try.pinned (OpenSpec.ofChange Rows.windowFreeSpec) :=
  OpenClaim.holds_of_wide 13 Try.f13 rfl rfl rfl rfl rfl rfl rfl ⟨rfl, rfl, rfl, rfl, rfl⟩ rfl rfl rfl rfl rfl (by kernel_rfl) Try.func13 (by kernel_rfl)
    (of_decide_eq_true (by kernel_rfl)) (by unfold Func.isWrapper; first | (rw [if_pos (by decide +kernel)]; kernel_rfl) | (rw [if_neg (by decide +kernel)]; exact ⟨rfl, rfl⟩))
    (fun os started H enc _ => lifted os started H enc)

theorem proved : Rows.WindowFreeSaid := over
#print axioms proved
end Go.Proofs.Ytnopdnclefopbaa.windowFree
