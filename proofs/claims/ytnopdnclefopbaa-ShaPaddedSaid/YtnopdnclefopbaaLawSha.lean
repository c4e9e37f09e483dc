/- A padded message consists of whole blocks, begins with the message and ends with its length: the statement ShaPadded holds of the program, for every input. No further condition. -/
import Derived.Test.YtnopdnclefopbaaRows
import Derived.Test.YtnopdnclefopbaaFrameb
import Derived.Test.YtnopdnclefopbaaSha
import Derived.Test.YtnopdnclefopbaaKitc
namespace Go.Proofs.Ytnopdnclefopbaa.shaPadded
open Go.ChangeShapes Go.WideShapes Go.ChangeAt Go.RowKit
set_option linter.unusedVariables false

theorem shaPad_length (l : List UInt8) : (shaPad l).length = l.length + 9 + padZ l.length := by
  simp [shaPad, be8_length]; omega
theorem shaPad_mod (l : List UInt8) : (shaPad l).length % 64 = 0 := by rw [shaPad_length]; unfold padZ; omega
theorem shaPad_take (l : List UInt8) : (shaPad l).take l.length = l := by simp [shaPad]
theorem shaPad_at (l : List UInt8) : (shaPad l)[l.length]? = some 128 := by simp [shaPad]
/-- What the last loop has gathered behind k bytes. -/
def acc (x k : Nat) : Nat := x / 256 ^ (8 - k)
def dig (x k : Nat) : Nat := x / 256 ^ (7 - k) % 256
theorem acc_step (x k : Nat) (h : k < 8) : 256 * acc x k + dig x k = acc x (k + 1) := by
  unfold acc dig
  rw [show 8 - k = 7 - k + 1 from by omega, show 8 - (k + 1) = 7 - k from by omega, Nat.pow_succ, ← Nat.div_div_eq_div_mul]
  omega
theorem acc_le (x k : Nat) : acc x k ≤ x := Nat.div_le_self _ _
theorem shaPad_tail (l : List UInt8) (j : Nat) (h : j < 8) : (shaPad l)[(shaPad l).length - 8 + j]? = some (UInt8.ofNat (8 * l.length / 2 ^ (8 * (7 - j)))) := by
  have e : shaPad l = (l ++ 128 :: List.replicate (padZ l.length) 0) ++ be8 (8 * l.length) := by simp [shaPad]
  rw [e, List.getElem?_append_right (by simp [be8_length]; omega)]
  simp [be8_length, be8]
  exact ⟨j, by rw [List.getElem?_range (by omega)]; simp; omega, rfl⟩
theorem dig_eq (x j : Nat) : (UInt8.ofNat (x / 2 ^ (8 * (7 - j)))).toNat = dig x j := by
  unfold dig; rw [UInt8.toNat_ofNat', show 2 ^ (8 * (7 - j)) = 256 ^ (7 - j) from by rw [Nat.pow_mul]]
theorem owns_cell {w : World} {base n cap g j : Nat} {xs : List UInt8} {u : UInt8} (h : w.ownsRow base 5 1 (.slice (some ⟨g, 0, none⟩) n cap) n (cells8 xs)) (hj : xs[j]? = some u) : w.cell? ⟨g, j, none⟩ = some (.int .u8 (u.toNat : Int)) := by
  have hl : n = xs.length := by have := h.1; rw [cells8_length] at this; omega
  have hlt := (List.getElem?_eq_some_iff.1 hj).1
  rw [h.cellAt j (by omega)]; simp [cells8, hj]
theorem owns_cap {w : World} {base n cap g size : Nat} {e : TypeId} {xs : List Value} (h : w.ownsRow base e size (.slice (some ⟨g, 0, none⟩) n cap) n xs) : n ≤ cap ∧ cap ≤ maxLen := by
  rcases h.2 with ⟨h1, _⟩ | ⟨g', cap', cur, h1, _, _, h2, h3, _⟩
  · cases h1
  · injection h1 with h1 h4 h5; subst h5; exact ⟨h2, h3⟩
theorem bytes_cut {w : World} {base n cap g m : Nat} {xs : List UInt8} (h : w.ownsRow base 5 1 (.slice (some ⟨g, 0, none⟩) n cap) n (cells8 xs)) (hm : m ≤ n) : Bytes w (.slice (some ⟨g, 0, none⟩) m cap) (xs.take m) := by
  have hl : n = xs.length := by have := h.1; rw [cells8_length] at this; omega
  have hc := owns_cap h
  have e : (xs.take m).length = m := by rw [List.length_take]; omega
  refine ⟨_, cap, by rw [e], by omega, hc.2, (fun h => by cases h), fun hp => ⟨g, 0, rfl, ?_, fun i u hu => ?_⟩⟩
  · rcases h.lt g rfl with ⟨_, h⟩; exact h
  · have hi := (List.getElem?_eq_some_iff.1 hu).1
    rw [Nat.zero_add]; exact owns_cell h (by rw [List.getElem?_take_of_lt (by omega)] at hu; exact hu)

set_option maxRecDepth 100000 in
set_option maxHeartbeats 1600000 in
theorem walk (a : Option Addr) (len cap : Nat) (z : List UInt8) (w : World) (hz : len = z.length) (hb : ∀ n, n ≤ len → Bytes w (.slice a n cap) (z.take n)) :
    Calls Try.prog 4 #[.slice a len cap] w fun e w' => e = .returned (.bool true) ∧ Below w.heap.size w w' := by
  obtain ⟨n, hn⟩ : ∃ n : Nat, n = min len 900 := ⟨_, rfl⟩
  have hbn := hb n (by omega)
  obtain ⟨l, hl⟩ : ∃ l, l = z.take n := ⟨_, rfl⟩
  rw [← hl] at hbn
  have hll : l.length = n := by rw [hl, List.length_take]; omega
  have hcap : n ≤ cap := by obtain ⟨a', c', e1, e2, e3, e4, e5⟩ := hbn; injection e1 with e1 e6 e7; omega
  have hn9 : n ≤ 900 := by omega
  clear hb hl
  have hN := shaPad_length l
  have hN2 := padZ_lt l.length
  have hNm := shaPad_mod l
  rw [hll] at hN hN2
  obtain ⟨N, hNN⟩ : ∃ N, N = (shaPad l).length := ⟨_, rfl⟩
  rw [← hNN] at hN hNm
  have f1 : ((N : Int) % 64 != 0) = false := by rw [bne_eq_false_iff_eq]; omega
  have f2 : decide ((N : Int) < (n : Int) + 9) = false := by simp; omega
  have f3 : decide ((n : Int) + 9 + 64 ≤ (N : Int)) = false := by simp; omega
  have hNn : n + 9 ≤ N := by omega
  have hN1 : N ≤ 1000 := by omega
  have HNN := Lib.hid hNN
  have Hll := Lib.hid hll
  have Hz := Lib.hid hz
  have hW : Below w.heap.size w w := Below.refl _ _
  clear hN hNm hN2 hNN hll
  have key : ∀ (v : Value) (w1 : World) (tail : Calls Try.prog 0 #[] w fun _ _ => True), True := fun _ _ _ => trivial
  clear key
  have hn2 := Lib.hid (show min (len : Int) 900 = (n : Int) by omega)
  clear hz hn
  go_enter Try.func4, Try.ntmps4
  go_wp2_with (first | (go_at_call 23; (with_reducible refine (pad_calls _ l _ hbn (by rw [Hll.out]; omega)).mono ?_); rintro e w1 ⟨p, rfl, ho, hb1⟩) | (with_reducible refine wpList_min rfl (.tmp 10) 900 rfl (len : Int) (n : Int) rfl hn2.out ?_))
  rw [← HNN.out] at ho
  obtain ⟨g, capP, rfl⟩ := owns_pos ho (by omega)
  have hbp : ∀ k, Sem.run Try.prog (convert 33 9 (.slice (some ⟨g, 0, none⟩) n capP)) (w1.drewN k) = .ok (.string ⟨l.toArray⟩) (w1.drewN k) := fun k => by
    refine conv_string (l := l) ?_
    have h1 := bytes_cut ho (m := n) (by omega)
    rw [← Hll.out, shaPad_take, Hll.out] at h1
    exact h1.below (below_drewN (Below.refl _ _) k)
  have hba : ∀ k, Sem.run Try.prog (convert 33 9 (.slice a n cap)) (w1.drewN k) = .ok (.string ⟨l.toArray⟩) (w1.drewN k) := fun k => conv_string ((hbn.below hb1).below (below_drewN (Below.refl _ _) k))
  have hcN : N ≤ capP := (owns_cap ho).1
  have hcn : n ≤ capP := by omega
  have hcell : w1.cell? ⟨g, n, none⟩ = some (.int .u8 128) := by
    have := owns_cell ho (shaPad_at l); rw [Hll.out] at this; exact this
  have htail : Hid (∀ M, N = M + 8 → ∀ j, j < 8 → w1.cell? ⟨g, M + j, none⟩ = some (.int .u8 (dig (8 * n) j : Int))) := fun M hM j hj => by
    have h1 := shaPad_tail l j hj
    rw [← HNN.out, show N - 8 + j = M + j from by omega] at h1
    have := owns_cell ho h1
    rw [dig_eq, Hll.out] at this; exact this
  have hdig : ∀ j, dig (8 * n) j < 256 := fun j => Nat.mod_lt _ (by omega)
  have hWe := hb1
  clear ho hb1 hbn
  go_quiet (fail)
  clear f1 f2 f3 hbp hba hcell
  obtain ⟨M, rfl⟩ : ∃ M, N = M + 8 := ⟨N - 8, by omega⟩
  have htail := Lib.hid (htail.out M rfl)
  go_wp2_with (fail)
  go_loop [5, 7, 67] (fun s d i => ∃ k : Nat, k ≤ 8 ∧ i = .int .i64 k ∧ s = .int .i64 ((acc (8 * n) k : Nat) : Int)) (fun _ _ i => 8 - (intOf i).toNat)
  case atStart => exact ⟨0, by omega, rfl, by rw [show acc (8 * n) 0 = 0 from Nat.div_eq_of_lt (by omega)]; rfl⟩
  case round =>
    obtain ⟨k, hk, rfl, rfl⟩ := hrel
    have hle := acc_le (8 * n) k
    by_cases hlt : k < 8
    · have hcell := htail.out k hlt
      have hd := hdig k
      have hst := Lib.hid (acc_step (8 * n) k hlt)
      obtain ⟨d, hdd⟩ : ∃ d, d = dig (8 * n) k := ⟨_, rfl⟩
      obtain ⟨s, hss⟩ : ∃ s, s = acc (8 * n) k := ⟨_, rfl⟩
      have hst := hst.out
      rw [← hdd] at hcell hd hst
      rw [← hss] at hle hst ⊢
      have hst := Lib.hid hst
      clear hdig htail hdd hss
      go_wp2
      go_round
      case rel => exact ⟨k + 1, by omega, by go_num, by rw [← hst.out]; go_num⟩
      case measure => simp [intOf]; omega
    · obtain rfl : k = 8 := by omega
      have e8 : acc (8 * n) 8 = 8 * n := by unfold acc; simp
      rw [e8] at hle ⊢
      clear e8
      go_wp2
      go_ret
      exact ⟨by simp, below_drewN hWe nq⟩

set_option maxRecDepth 100000 in
theorem lifted (os : Os) (started : os.Started) (H : Type) (enc : TypeId × Value → H) :
    ReturnsInHanded {} Try.checked os 4 .any (Rows.shaPaddedSpec.pre6 enc Try.prog Try.f4 Rows.shaPaddedRow.domain false) (Rows.shaPaddedSpec.post enc Try.prog Try.f4 false true false false) := by
  refine returnsInHanded_of_change (C := Try.checked) own started (by kernel_rfl) Try.func4
    (ChangeSpec.witness6 (enc := enc) (C := Try.checked) false ⟨#[], #[.slice none 0 0], []⟩ 8 (by kernel_rfl) (by kernel_rfl) (by kernel_rfl) (by kernel_rfl)) ?_
  intro W base args ds gs before hval0 hW hcnd _
  have hval : ∀ (j : Nat) t v, Try.f4.params[j]? = some t → args[j]? = some v → Value.okWide Try.prog W .any base t v := hval0
  have hW' := hW
  obtain ⟨p, q, hA0, hV, rfl, hfz, hnd⟩ := hW
  have hA : DataW.TrodAll enc Try.prog W 0 (fun _ => true) true Try.f4.params.toList args.toList ds p := hA0
  rw [Try.params4] at hA hval
  obtain ⟨v0, vs0, d0, ds0, p0, q0, hargs, rfl, rfl, h0, r0⟩ := trodAll_cons hA
  obtain ⟨rfl, rfl, rfl⟩ := trodAll_nil r0
  obtain rfl : args = #[v0] := by cases args; simp_all
  obtain ⟨rfl, rfl⟩ := trodVars_none hV
  have k0 := h0
  have lt0 : ∀ x ∈ p0, x.block < W.heap.size := by obtain ⟨m, hm⟩ := k0; exact DataW.trod_lt m _ _ _ hm
  obtain ⟨a0, len0, cap0, z0, rfl, w0l, w0⟩ := open_bytes (hval 0 _ v0 rfl rfl) h0
  clear hA0 hval0
  refine (walk a0 len0 cap0 z0 W w0l w0).mono fun e W9 ⟨he, bel⟩ => ?_
  subst he
  exact ⟨_, rfl, _, _, _, [], _, [], hW', trodAll_mk1 (shut_bool Try.underlying4 _), (trodAll_cons_mk (Below.trod laidOut (by kernel_rfl) (of_decide_eq_true (by kernel_rfl)) k0 bel lt0) trodAll_mk0), rfl, bel.frame _, fun h => by cases h⟩

theorem over : Rows.shaPaddedRow.holds Try.pinned (OpenSpec.ofChange Rows.shaPaddedSpec) :=
  OpenClaim.holds_of_wide 4 Try.f4 rfl rfl rfl rfl rfl rfl rfl ⟨rfl, rfl, rfl, rfl, rfl⟩ rfl rfl rfl rfl rfl (by kernel_rfl) Try.func4 (by kernel_rfl)
    (of_decide_eq_true (by kernel_rfl)) (by unfold Func.isWrapper; first | (rw [if_pos (by decide +kernel)]; kernel_rfl) | (rw [if_neg (by decide +kernel)]; exact ⟨rfl, rfl⟩))
    (fun os started H enc _ => lifted os started H enc)

theorem proved : Rows.ShaPaddedSaid := over
#print axioms proved
end Go.Proofs.Ytnopdnclefopbaa.shaPadded
