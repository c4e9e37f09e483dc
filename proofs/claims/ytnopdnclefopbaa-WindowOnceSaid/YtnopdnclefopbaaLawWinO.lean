/- WindowOnce: every counter is accepted at most once, and counters that are too old are rejected: the statement holds of the program, for every input. No further condition. -/
import Derived.Test.YtnopdnclefopbaaLawWin
import Derived.Test.YtnopdnclefopbaaFrameI
namespace Go.Proofs.Ytnopdnclefopbaa.windowOnce
open Go.ChangeShapes Go.WideShapes Go.ChangeAt Go.RowKit
open Go.ChangeMaps (open_string shut_string)
set_option linter.unusedVariables false

set_option maxRecDepth 100000 in
set_option maxHeartbeats 1600000 in
theorem walk (v : Value) (l : List Int) (w : World) (hb : Ints w v l) (hok : ∀ x ∈ l, IntOk x) : Calls Try.prog 10 #[v] w fun e w' => e = .returned (.bool true) ∧ Below w.heap.size w w' := by
  have T := Lib.hid (taken_any v l w hb hok)
  obtain ⟨a, c, rfl, -⟩ := hb
  clear hok
  go_enter Try.func10, Try.ntmps10
  go_wp2_with (fail)
  refine T.out.mono ?_
  rintro e w1 ⟨s, m, b, p, came, rfl, hR, h200, ho, hW⟩
  have hko := rep_ok hR (fun c hc => by have := h200 c hc; omega)
  obtain ⟨ca, n, cc, rfl⟩ := owns_slice ho
  have hlen := ho.1
  have hI := owns_ints ho
  have hnn : n = came.length := by
    obtain ⟨a', c', e, _⟩ := hI
    injection e with e1 e2 e3
    rw [e2, List.length_map]
  subst hnn
  have HR := Lib.hid hR
  clear T hlen hR ho
  go_wp2_with (fail)
  have hw2 : Below w1.heap.size w1 (w1.alloc (Obj.cells #[.bool s, .int .i64 (m : Int), .int .u64 (b : Int)] 58)) := below_alloc _ _
  have p0 : (w1.alloc (Obj.cells #[.bool s, .int .i64 (m : Int), .int .u64 (b : Int)] 58)).cell? ⟨w1.heap.size, 0, none⟩ = some (.bool s) := cell_at rfl 0 rfl
  have p1 : (w1.alloc (Obj.cells #[.bool s, .int .i64 (m : Int), .int .u64 (b : Int)] 58)).cell? ⟨w1.heap.size, 1, none⟩ = some (.int .i64 (m : Int)) := cell_at rfl 1 rfl
  have p2 : (w1.alloc (Obj.cells #[.bool s, .int .i64 (m : Int), .int .u64 (b : Int)] 58)).cell? ⟨w1.heap.size, 2, none⟩ = some (.int .u64 (b : Int)) := cell_at rfl 2 rfl
  have ps : w1.heap.size < (w1.alloc (Obj.cells #[.bool s, .int .i64 (m : Int), .int .u64 (b : Int)] 58)).heap.size := by simp
  have pz : ∀ o, (w1.alloc (Obj.cells #[.bool s, .int .i64 (m : Int), .int .u64 (b : Int)] 58)).frozen? ⟨w1.heap.size, o, none⟩ = false := fun o => froz_at rfl o
  generalize (w1.alloc (Obj.cells #[.bool s, .int .i64 (m : Int), .int .u64 (b : Int)] 58)) = w2 at *
  replace hW := hW.trans (hw2.mono hW.size)
  replace hI := hI.below hw2
  have hlm : came.length ≤ maxLen := by
    obtain ⟨a', c', e, g2, g3, _⟩ := hI
    rw [List.length_map] at g2; omega
  unfold maxLen at hlm
  have HI := Lib.hid hI
  clear hI
  go_loopw [20] (fun i wr => ∃ k : Nat, k ≤ came.length ∧ i = .int .i64 (k : Int) ∧ Below w2.heap.size w2 wr) (fun i _ => came.length - (intOf i).toNat)
  case atStart => exact ⟨0, Nat.zero_le _, rfl, Below.refl _ _⟩
  case round =>
    obtain ⟨k, hk, rfl, hB⟩ := hrel
    have q0 := keeps hB p0
    have q1 := keeps hB p1
    have q2 := keeps hB p2
    have qs := Nat.lt_of_lt_of_le ps hB.size
    by_cases hlt : k < came.length
    · obtain ⟨a', c', e, g2, g3, g4, g5⟩ := HI.out.below hB
      obtain ⟨b9, o9, hca, hb9, hc9⟩ := g5 (by rw [List.length_map]; omega)
      injection e with e1 e2 e3
      subst e1
      subst hca
      have hcc := hc9 k ((came[k] : Nat) : Int) (by rw [List.getElem?_map, List.getElem?_eq_getElem hlt]; rfl)
      have hm : came[k] ∈ came := List.getElem_mem hlt
      have h2 := h200 _ hm
      have hv := Lib.hid ((rep_has HR.out came[k]).2 (.inl hm))
      generalize came[k] = n at *
      have H := Lib.hid (fun w => seenHas_any s m b n true w hko (by omega) hv)
      have TO := Lib.hid (fun w => take_old s m b n w hko (by omega) hv)
      clear hc9 g2 g3 g4 g5 e2 e3 hm hv hko
      go_wp2_with (fail)
      refine (H.out _).mono ?_
      rintro e w3 ⟨rfl, hb3⟩
      replace q0 := keeps hb3 q0
      replace q1 := keeps hb3 q1
      replace q2 := keeps hb3 q2
      replace hB := below_step hB hb3
      go_wp2_with (fail)
      refine (TO.out _).mono ?_
      rintro e w4 ⟨rfl, hb4⟩
      replace hB := below_step hB hb4
      go_wp2_with (fail)
      exact ⟨⟨k + 1, by omega, rfl, hB.alloc hB.size _⟩, by simp only [intOf]; omega⟩
    · have hs : (s = true ∧ 0 < came.length) ∨ (s = false ∧ came.length = 0) := by
        rcases HR.out with ⟨h1, h2, _⟩ | ⟨h1, h2, _⟩
        · exact .inr ⟨h2, by rw [h1]; rfl⟩
        · exact .inl ⟨h1, List.length_pos_of_mem h2⟩
      have C := Lib.hid (fun w => check_ok s m b w hko)
      clear HR hko
      rcases hs with ⟨rfl, hl⟩ | ⟨rfl, hl⟩
      · go_wp2_with (go_at_call 37; (with_reducible refine (C.out _).mono ?_); rintro e w3 ⟨rfl, hb3⟩; replace q0 := keeps hb3 q0; replace hB := below_step hB hb3)
        go_ret
        exact ⟨rfl, hW.trans (hB.mono hW.size)⟩
      · have HL := Lib.hid hl
        have hl2 : ¬ (0 < came.length) := by omega
        have hl3 : decide (0 < came.length) = false := decide_eq_false hl2
        clear hl
        go_wp2_with (go_at_call 37; (with_reducible refine (C.out _).mono ?_); rintro e w3 ⟨rfl, hb3⟩; replace q0 := keeps hb3 q0; replace hB := below_step hB hb3)
        go_ret
        exact ⟨rfl, hW.trans (hB.mono hW.size)⟩

set_option maxRecDepth 100000 in
theorem lifted (os : Os) (started : os.Started) (H : Type) (enc : TypeId × Value → H) :
    ReturnsInHanded {} Try.checked os 10 .any (Rows.windowOnceSpec.pre6 enc Try.prog Try.f10 Rows.windowOnceRow.domain false) (Rows.windowOnceSpec.post enc Try.prog Try.f10 false true false false) := by
  refine returnsInHanded_of_change (C := Try.checked) own started (by kernel_rfl) Try.func10
    (ChangeSpec.witness6 (enc := enc) (C := Try.checked) false ⟨#[], #[.slice none 0 0], []⟩ 8 (by kernel_rfl) (by kernel_rfl) (by kernel_rfl) (by kernel_rfl)) ?_
  intro W base args ds gs before hval0 hW hcnd _
  have hval : ∀ (j : Nat) t v, Try.f10.params[j]? = some t → args[j]? = some v → Value.okWide Try.prog W .any base t v := hval0
  have hW' := hW
  obtain ⟨p, q, hA0, hV, rfl, hfz, hnd⟩ := hW
  have hA : DataW.TrodAll enc Try.prog W 0 (fun _ => true) true Try.f10.params.toList args.toList ds p := hA0
  rw [Try.params10] at hA hval
  obtain ⟨v0, vs0, d0, ds0, p0, q0, hargs, rfl, rfl, h0, r0⟩ := trodAll_cons hA
  obtain ⟨rfl, rfl, rfl⟩ := trodAll_nil r0
  obtain rfl : args = #[v0] := by cases args; simp_all
  obtain ⟨rfl, rfl⟩ := trodVars_none hV
  have k0 := h0
  have lt0 : ∀ x ∈ p0, x.block < W.heap.size := by obtain ⟨m, hm⟩ := k0; exact DataW.trod_lt m _ _ _ hm
  obtain ⟨a0, len0, cap0, z0, rfl, w0l, w0⟩ := open_introw (hval 0 _ v0 rfl rfl) h0
  clear hA0 hval0
  refine (walk _ z0 W w0.1 w0.2).mono fun e W9 ⟨he, bel⟩ => ?_
  subst he
  exact ⟨_, rfl, _, _, _, [], _, [], hW', trodAll_mk1 (shut_bool Try.underlying4 _), (trodAll_cons_mk (Below.trod laidOut (by kernel_rfl) (of_decide_eq_true (by kernel_rfl)) k0 bel lt0) trodAll_mk0), rfl, bel.frame _, fun h => by cases h⟩

theorem over : Rows.windowOnceRow.holds Try.pinned (OpenSpec.ofChange Rows.windowOnceSpec) :=
  OpenClaim.holds_of_wide 10 Try.f10 rfl rfl rfl rfl rfl rfl rfl ⟨rfl, rfl, rfl, rfl, rfl⟩ rfl rfl rfl rfl rfl (by kernel_rfl) Try.func10 (by kernel_rfl)
    (of_decide_eq_true (by kernel_rfl)) (by unfold Func.isWrapper; first | (rw [if_pos (by decide +kernel)]; kernel_rfl) | (rw [if_neg (by decide +kernel)]; exact ⟨rfl, rfl⟩))
    (fun os started H enc _ => lifted os started H enc)

theorem proved : Rows.WindowOnceSaid := over
#print axioms proved
end Go.Proofs.Ytnopdnclefopbaa.windowOnce
