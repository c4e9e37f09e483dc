/- WindowLast: Last is the greatest received counter, and greater counters have not been received: the statement holds of the program, for every input. No further condition. -/
import Derived.Test.YtnopdnclefopbaaLawWin
import Derived.Test.YtnopdnclefopbaaFrameI
import Derived.IntWalk
namespace Go.Proofs.Ytnopdnclefopbaa.windowLast
open Go.ChangeShapes Go.WideShapes Go.ChangeAt Go.RowKit
open Go.ChangeMaps (open_string shut_string)
set_option linter.unusedVariables false

set_option maxRecDepth 100000 in
set_option maxHeartbeats 1600000 in
theorem walk (v : Value) (l : List Int) (x : Int) (w : World) (hb : Ints w v l) (hok : ∀ x ∈ l, IntOk x) (hx : IntOk x) : Calls Try.prog 12 #[v, .int .i64 x] w fun e w' => e = .returned (.bool true) ∧ Below w.heap.size w w' := by
  have T := Lib.hid (taken_any v l w hb hok)
  obtain ⟨a, c, rfl, -⟩ := hb
  clear hok
  go_enter Try.func12, Try.ntmps12
  go_wp2_with (fail)
  refine T.out.mono ?_
  rintro e w1 ⟨s, m, b, p, came, rfl, hR, h200, ho, hW⟩
  have hko := rep_ok hR (fun c hc => by have := h200 c hc; omega)
  obtain ⟨ca, n, cc, rfl⟩ := owns_slice ho
  have hlen := ho.1
  have hI := owns_ints ho
  have hnn : n = came.length := by
    obtain ⟨a', c', e, _⟩ := hI
    injection e with e1 e2 e3
    rw [e2, List.length_map]
  subst hnn
  have HR := Lib.hid hR
  clear T hlen hR ho
  have hlm : came.length ≤ maxLen := by
    obtain ⟨a', c', e, g2, g3, _⟩ := hI
    rw [List.length_map] at g2; omega
  unfold maxLen at hlm
  have p3 := ppick_pos (n := x) (m := (100 : Int)) (by omega)
  obtain ⟨q, hq⟩ := Int.eq_ofNat_of_zero_le p3.1
  have hq2 : q < 100 := by omega
  have Q := Lib.hid hq
  clear p3 hq
  rcases HR.out with ⟨rfl, rfl, rfl, rfl⟩ | ⟨rfl, h1, h2, h3, h4⟩
  · clear HR hko
    go_wp2_with (fail)
    go_ret
    exact ⟨rfl, hW.alloc hW.size _⟩
  · have hl : 0 < came.length := List.length_pos_of_mem h1
    have hm := h200 _ h1
    have hv : Hid (vHas true m b (m + 1 + q) = false) := Lib.hid (by unfold vHas; simp; omega)
    have H : Hid (∀ w, Calls Try.prog 35 #[seenV true m b, .int .i64 ((m : Int) + 1 + (q : Int))] w fun e w' => e = .returned (.tuple #[.bool false, .int .i64 0]) ∧ Below w.heap.size w w') := Lib.hid (fun w => seenHas_any true m b (m + 1 + q) false w hko (by omega) hv)
    have u1 : IntKind.i64.wrap ((m : Int) + 1) = (m : Int) + 1 := IntWalk.i64_in _ (by omega)
    have u2 : IntKind.i64.wrap ((m : Int) + 1 + (q : Int)) = (m : Int) + 1 + (q : Int) := IntWalk.i64_in _ (by omega)
    have M := Lib.hid (fun w hI => max_ints (w := w) (v := .slice ca came.length cc) (came := came) m hI h1 h2)
    have HI := Lib.hid hI
    have hle : ¬ came.length = 0 := by omega
    clear h2 h4 hI HR hko
    go_wp2_with (fail)
    have hw2 : Below w1.heap.size w1 (w1.alloc (Obj.cells #[.bool true, .int .i64 (m : Int), .int .u64 (b : Int)] 58)) := below_alloc _ _
    have p0 : (w1.alloc (Obj.cells #[.bool true, .int .i64 (m : Int), .int .u64 (b : Int)] 58)).cell? ⟨w1.heap.size, 0, none⟩ = some (.bool true) := cell_at rfl 0 rfl
    have p1 : (w1.alloc (Obj.cells #[.bool true, .int .i64 (m : Int), .int .u64 (b : Int)] 58)).cell? ⟨w1.heap.size, 1, none⟩ = some (.int .i64 (m : Int)) := cell_at rfl 1 rfl
    have p2 : (w1.alloc (Obj.cells #[.bool true, .int .i64 (m : Int), .int .u64 (b : Int)] 58)).cell? ⟨w1.heap.size, 2, none⟩ = some (.int .u64 (b : Int)) := cell_at rfl 2 rfl
    have ps : w1.heap.size < (w1.alloc (Obj.cells #[.bool true, .int .i64 (m : Int), .int .u64 (b : Int)] 58)).heap.size := by simp
    have pz : ∀ o, (w1.alloc (Obj.cells #[.bool true, .int .i64 (m : Int), .int .u64 (b : Int)] 58)).frozen? ⟨w1.heap.size, o, none⟩ = false := fun o => froz_at rfl o
    generalize (w1.alloc (Obj.cells #[.bool true, .int .i64 (m : Int), .int .u64 (b : Int)] 58)) = w2 at *
    replace hW := hW.trans (hw2.mono hW.size)
    have HI := Lib.hid (HI.out.below hw2)
    refine wp_region_held_drew (S := fun wS => Below w2.heap.size w2 wS) (by kernel_rfl) (by exact (Below.refl _ _).drew) (fun hHeld => ?_)
    (refine H_take (i := 0) rfl (by kernel_rfl) (by kernel_rfl) (by kernel_rfl) (fun _ _ _ _ h => h) hHeld (by rfl) ?_; apply Exists.intro; refine ⟨fun w9 hS9 => ?_, ?_⟩; (focus (have hcS := bcellR hS9; go_simp; first | done | with_reducible rfl | exact rfl)); try simp only [Act.put, List.setIfInBounds_toArray, List.set, List.getElem_toArray, List.getElem_cons_zero, List.getElem_cons_succ])
    (refine H_take (i := 1) rfl (by kernel_rfl) (by kernel_rfl) (by kernel_rfl) (fun _ _ _ _ h => h) hHeld (by rfl) ?_; apply Exists.intro; refine ⟨fun w9 hS9 => ?_, ?_⟩; (focus (have hcS := bcellR hS9; go_simp; first | done | with_reducible rfl | exact rfl)); try simp only [Act.put, List.setIfInBounds_toArray, List.set, List.getElem_toArray, List.getElem_cons_zero, List.getElem_cons_succ])
    (refine H_take (i := 2) rfl (by kernel_rfl) (by kernel_rfl) (by kernel_rfl) (fun _ _ _ _ h => h) hHeld (by rfl) ?_; apply Exists.intro; refine ⟨fun w9 hS9 => ?_, ?_⟩; (focus (have hcS := bcellR hS9; go_simp; first | done | with_reducible rfl | exact rfl)); try simp only [Act.put, List.setIfInBounds_toArray, List.set, List.getElem_toArray, List.getElem_cons_zero, List.getElem_cons_succ])
    (refine H_take (i := 3) rfl (by kernel_rfl) (by kernel_rfl) (by kernel_rfl) (fun _ _ _ _ h => h) hHeld (by rfl) ?_; apply Exists.intro; refine ⟨fun w9 hS9 => ?_, ?_⟩; (focus (have hcS := bcellR hS9; go_simp; first | done | with_reducible rfl | exact rfl)); try simp only [Act.put, List.setIfInBounds_toArray, List.set, List.getElem_toArray, List.getElem_cons_zero, List.getElem_cons_succ])
    (refine H_take (i := 4) rfl (by kernel_rfl) (by kernel_rfl) (by kernel_rfl) (fun _ _ _ _ h => h) hHeld (by rfl) ?_; apply Exists.intro; refine ⟨fun w9 hS9 => ?_, ?_⟩; (focus (have hcS := bcellR hS9; go_simp; first | done | with_reducible rfl | exact rfl)); try simp only [Act.put, List.setIfInBounds_toArray, List.set, List.getElem_toArray, List.getElem_cons_zero, List.getElem_cons_succ])
    refine H_one (i := 5) (by kernel_rfl) rfl (fun K hK => ?_)
    go_simp
    (go_at_call 24; (with_reducible refine (picked_is _ _ _ _ Q hx.1 hx.2 (by decide) (by decide)).mono ?_); rintro e w5 ⟨rfl, rfl⟩)
    refine hK.out _ _ (by (try dsimp only); exact hHeld) (fun hHeld => ?_)
    clear hK K
    try simp only [Act.put, List.setIfInBounds_toArray, List.set, List.getElem_toArray, List.getElem_cons_zero, List.getElem_cons_succ]
    (refine H_take (i := 6) rfl (by kernel_rfl) (by kernel_rfl) (by kernel_rfl) (fun _ _ _ _ h => h) hHeld (by rfl) ?_; apply Exists.intro; refine ⟨fun w9 hS9 => ?_, ?_⟩; (focus (have hcS := bcellR hS9; go_simp; first | done | with_reducible rfl | exact rfl)); try simp only [Act.put, List.setIfInBounds_toArray, List.set, List.getElem_toArray, List.getElem_cons_zero, List.getElem_cons_succ])
    refine H_one (i := 7) (by kernel_rfl) rfl (fun K hK => ?_)
    go_simp
    go_at_call 35; (with_reducible refine (H.out _).mono ?_); rintro e w3 ⟨rfl, hb3⟩
    refine hK.out _ _ (by (try dsimp only); exact below_step hHeld hb3) (fun hHeld => ?_)
    clear hK K
    try simp only [Act.put, List.setIfInBounds_toArray, List.set, List.getElem_toArray, List.getElem_cons_zero, List.getElem_cons_succ]
    (refine H_take (i := 8) rfl (by kernel_rfl) (by kernel_rfl) (by kernel_rfl) (fun _ _ _ _ h => h) hHeld (by rfl) ?_; apply Exists.intro; refine ⟨fun w9 hS9 => ?_, ?_⟩; (focus (have hcS := bcellR hS9; go_simp; first | done | with_reducible rfl | exact rfl)); try simp only [Act.put, List.setIfInBounds_toArray, List.set, List.getElem_toArray, List.getElem_cons_zero, List.getElem_cons_succ])
    (refine H_take (i := 9) rfl (by kernel_rfl) (by kernel_rfl) (by kernel_rfl) (fun _ _ _ _ h => h) hHeld (by rfl) ?_; apply Exists.intro; refine ⟨fun w9 hS9 => ?_, ?_⟩; (focus (have hcS := bcellR hS9; go_simp; first | done | with_reducible rfl | exact rfl)); try simp only [Act.put, List.setIfInBounds_toArray, List.set, List.getElem_toArray, List.getElem_cons_zero, List.getElem_cons_succ])
    (refine H_take (i := 10) rfl (by kernel_rfl) (by kernel_rfl) (by kernel_rfl) (fun _ _ _ _ h => h) hHeld (by rfl) ?_; apply Exists.intro; refine ⟨fun w9 hS9 => ?_, ?_⟩; (focus (have hcS := bcellR hS9; go_simp; first | done | with_reducible rfl | exact rfl)); try simp only [Act.put, List.setIfInBounds_toArray, List.set, List.getElem_toArray, List.getElem_cons_zero, List.getElem_cons_succ])
    (refine H_take (i := 11) rfl (by kernel_rfl) (by kernel_rfl) (by kernel_rfl) (fun _ _ _ _ h => h) hHeld (by rfl) ?_; apply Exists.intro; refine ⟨fun w9 hS9 => ?_, ?_⟩; (focus (have hcS := bcellR hS9; go_simp; first | done | with_reducible rfl | exact rfl)); try simp only [Act.put, List.setIfInBounds_toArray, List.set, List.getElem_toArray, List.getElem_cons_zero, List.getElem_cons_succ])
    (refine H_take (i := 12) rfl (by kernel_rfl) (by kernel_rfl) (by kernel_rfl) (fun _ _ _ _ h => h) hHeld (by rfl) ?_; apply Exists.intro; refine ⟨fun w9 hS9 => ?_, ?_⟩; (focus (have hcS := bcellR hS9; go_simp; first | done | with_reducible rfl | exact rfl)); try simp only [Act.put, List.setIfInBounds_toArray, List.set, List.getElem_toArray, List.getElem_cons_zero, List.getElem_cons_succ])
    refine wpAnyH_done (by kernel_rfl) ?_ _
    replace p0 := keeps hHeld p0
    replace p1 := keeps hHeld p1
    replace ps := Nat.lt_of_lt_of_le ps hHeld.size
    replace hW := hW.trans (hHeld.mono hW.size)
    have HI := Lib.hid (HI.out.below hHeld)
    clear hHeld u1 u2
    go_wp2_with (fail)
    go_quiet ((go_at_call 39; exact quiet_same (M.out _ (by exact HI.out.below (below_drewN (Below.refl _ _) _)))))
    go_wp2_with (fail)
    go_ret
    exact ⟨by simp, below_drewN hW _⟩

set_option maxRecDepth 100000 in
theorem lifted (os : Os) (started : os.Started) (H : Type) (enc : TypeId × Value → H) :
    ReturnsInHanded {} Try.checked os 12 .any (Rows.windowLastSpec.pre6 enc Try.prog Try.f12 Rows.windowLastRow.domain false) (Rows.windowLastSpec.post enc Try.prog Try.f12 false true false false) := by
  refine returnsInHanded_of_change (C := Try.checked) own started (by kernel_rfl) Try.func12
    (ChangeSpec.witness6 (enc := enc) (C := Try.checked) false ⟨#[], #[.slice none 0 0, .int .i64 0], []⟩ 8 (by kernel_rfl) (by kernel_rfl) (by kernel_rfl) (by kernel_rfl)) ?_
  intro W base args ds gs before hval0 hW hcnd _
  have hval : ∀ (j : Nat) t v, Try.f12.params[j]? = some t → args[j]? = some v → Value.okWide Try.prog W .any base t v := hval0
  have hW' := hW
  obtain ⟨p, q, hA0, hV, rfl, hfz, hnd⟩ := hW
  have hA : DataW.TrodAll enc Try.prog W 0 (fun _ => true) true Try.f12.params.toList args.toList ds p := hA0
  rw [Try.params12] at hA hval
  obtain ⟨v0, vs0, d0, ds0, p0, q0, hargs, rfl, rfl, h0, r0⟩ := trodAll_cons hA
  obtain ⟨v1, vs1, d1, ds1, p1, q1, rfl, rfl, rfl, h1, r1⟩ := trodAll_cons r0
  obtain ⟨rfl, rfl, rfl⟩ := trodAll_nil r1
  obtain rfl : args = #[v0, v1] := by cases args; simp_all
  obtain ⟨rfl, rfl⟩ := trodVars_none hV
  have k0 := h0
  have lt0 : ∀ x ∈ p0, x.block < W.heap.size := by obtain ⟨m, hm⟩ := k0; exact DataW.trod_lt m _ _ _ hm
  have k1 := h1
  have lt1 : ∀ x ∈ p1, x.block < W.heap.size := by obtain ⟨m, hm⟩ := k1; exact DataW.trod_lt m _ _ _ hm
  obtain ⟨a0, len0, cap0, z0, rfl, w0l, w0⟩ := open_introw (hval 0 _ v0 rfl rfl) h0
  obtain ⟨n1, rfl, _, _, wn1⟩ := open_int Try.underlying3 (hval 1 _ v1 rfl rfl) h1
  have okn1 := intOk_wf wn1
  clear hA0 hval0
  refine (walk _ z0 n1 W w0.1 w0.2 okn1).mono fun e W9 ⟨he, bel⟩ => ?_
  subst he
  exact ⟨_, rfl, _, _, _, [], _, [], hW', trodAll_mk1 (shut_bool Try.underlying4 _), (trodAll_cons_mk (Below.trod laidOut (by kernel_rfl) (of_decide_eq_true (by kernel_rfl)) k0 bel lt0) (trodAll_cons_mk (Below.trod laidOut (by kernel_rfl) (of_decide_eq_true (by kernel_rfl)) k1 bel lt1) trodAll_mk0)), rfl, bel.frame _, fun h => by cases h⟩

theorem over : Rows.windowLastRow.holds Try.pinned (OpenSpec.ofChange Rows.windowLastSpec) :=
  OpenClaim.holds_of_wide 12 Try.f12 rfl rfl rfl rfl rfl rfl rfl ⟨rfl, rfl, rfl, rfl, rfl⟩ rfl rfl rfl rfl rfl (by kernel_rfl) Try.func12 (by kernel_rfl)
    (of_decide_eq_true (by kernel_rfl)) (by unfold Func.isWrapper; first | (rw [if_pos (by decide +kernel)]; kernel_rfl) | (rw [if_neg (by decide +kernel)]; exact ⟨rfl, rfl⟩))
    (fun os started H enc _ => lifted os started H enc)

theorem proved : Rows.WindowLastSaid := over
#print axioms proved
end Go.Proofs.Ytnopdnclefopbaa.windowLast
