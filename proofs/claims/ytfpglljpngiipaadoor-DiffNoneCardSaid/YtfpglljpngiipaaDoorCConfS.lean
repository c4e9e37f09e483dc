/- Nets put in order: contracts. -/
import Derived.Test.YtfpglljpngiipaaDoorCConfN
namespace Go.Proofs.YtfpglljpngiipaaDoor
open Go.RowKit
set_option linter.unusedVariables false
set_option linter.unusedSimpArgs false

theorem insJ_T {j : Nat} {L : List (List Bool)} (h : 0 < j) (hlt : ltB (L.getD j []) (L.getD (j - 1) []) = true) : insJ j L = insJ (j - 1) (swp L (j - 1)) := by
  obtain ⟨k, rfl⟩ : ∃ k, j = k + 1 := ⟨j - 1, by omega⟩
  exact if_pos hlt
theorem insJ_F {j : Nat} {L : List (List Bool)} (h : ¬ (0 < j ∧ ltB (L.getD j []) (L.getD (j - 1) []) = true)) : insJ j L = L := by
  cases j with
  | zero => rfl
  | succ k =>
    exact if_neg fun q => h ⟨Nat.succ_pos k, q⟩
theorem ord_neg {p q : List Bool} : ordN p q < 0 ↔ ltB p q = true := by
  unfold ordN
  by_cases h : ltB p q = true
  · rw [if_pos h]; exact ⟨fun _ => h, fun _ => by decide⟩
  · rw [if_neg h]
    refine ⟨fun k => ?_, fun k => absurd k h⟩
    split at k <;> omega
theorem swp_mem {L : List (List Bool)} {j : Nat} (h : ∀ x ∈ L, x.length ≤ 32) : ∀ x ∈ swp L j, x.length ≤ 32 := fun x hx => by
  unfold swp at hx
  rcases List.mem_or_eq_of_mem_set hx with k | k
  · rcases List.mem_or_eq_of_mem_set k with k | k
    · exact h x k
    · rw [k]; exact nsAt_32 h _
  · rw [k]; exact nsAt_32 h _
theorem stN_swp {L M : List (List Bool)} {j i m : Nat} {u v : List Bool} {X Y : List EV} (hX : X = [.u32 (adr v), .i (v.length : Int)]) (hY : Y = [.u32 (adr u), .i (u.length : Int)]) (hi : i < L.length) (hj : j < L.length) (hM : M = (L.set i v).set j u) : ∀ a, a < m → ∀ b, b < 2 → stZ (stZ (fun i j => netC (L.getD i []) j) i 0 X) j 0 Y a b = netC (M.getD a []) b := by
  intro a ha b hb
  have h1 := stN_set (m := m) hX hi (Eq.refl _) a ha b hb
  have h2 := stN_set (L := L.set i v) (m := m) hY (by rw [List.length_set]; exact hj) hM a ha b hb
  rw [← h2]
  unfold stZ at h1 ⊢
  rw [h1]
set_option maxRecDepth 100000 in
set_option maxHeartbeats 4000000 in
theorem cf_nIns {ns : List (List Bool)} (hl : ns.length ≤ 1000) (hb : ∀ x ∈ ns, x.length ≤ 32) : Cf Tryd.prog 109 [(0, .rz ns.length 2 (fun i j => netC (ns.getD i []) j) 51 0)] [.osl 0 ns.length, .i 0, .i (ns.length : Int), .v (.func (.func 52) #[] #[])] [(0, .rz ns.length 2 (fun i j => netC ((sortN ns).getD i []) j) 51 0)] (.tup []) := by
  refine Cf.introR tabT {} (DR _ _ _ tabT {}) (by kernel_rfl) tab_ok Tryd.func109 Tryd.ntmps109 rfl rfl (DR_ok tab_ok (by kernel_rfl)) (by kernel_rfl) ?_
  repeat (refine Ob.mk ?_ ?_; focus (omega))
  refine ⟨Nat, fun k => ⟨[(0, .osl 0 ns.length), (1, .i 0), (2, .i (ns.length : Int)), (3, .v (.func (.func 52) #[] #[])), (8, .i ((k : Int) + 1))], [(0, .rz ns.length 2 (fun i j => netC ((insN ns k).getD i []) j) 51 0)]⟩, fun k => (k = 0 ∨ k + 1 ≤ ns.length) ∧ ∀ x ∈ insN ns k, x.length ≤ 32, fun k => ns.length - k, 0, ⟨.inl rfl, hb⟩, ?_, fun k hx1 => ?_⟩
  · skip
    repeat (refine Ob.mk ?_ ?_; focus (first | (exact fun _ _ _ _ => rfl) | (exact Eq.refl _) | omega))
    trivial
  refine ⟨fun h1 => ?_, fun h1 => ?_⟩
  · skip
    have c1 := h1
    (simp only [bsX] at c1)
    have hk : k + 1 < ns.length := by omega
    refine ⟨Nat × List (List Bool), fun s => ⟨[(0, .osl 0 ns.length), (1, .i 0), (2, .i (ns.length : Int)), (3, .v (.func (.func 52) #[] #[])), (8, .i ((k : Int) + 1)), (9, .i (s.1 : Int))], [(0, .rz ns.length 2 (fun i j => netC (s.2.getD i []) j) 51 0)]⟩, fun s => s.1 ≤ k + 1 ∧ s.2.length = ns.length ∧ insJ s.1 s.2 = insN ns (k + 1) ∧ ∀ x ∈ s.2, x.length ≤ 32, fun s => s.1, (k + 1, insN ns k), ⟨Nat.le_refl _, insN_len ns k, rfl, hx1.2⟩, ?_, fun s hx2 => ?_⟩
    · skip
      repeat (refine Ob.mk ?_ ?_; focus (first | (exact fun _ _ _ _ => rfl) | (exact Eq.refl _) | omega))
      trivial
    refine ⟨[0, 0, 3, 7, 15, 15, 15, 111, 239, 15, 15, 1039, 3599, 7695, 16383, 32767, 65535], by kernel_rfl, ?_⟩
    repeat (refine Ob.mk ?_ ?_; (focus (first | omega | (exact fun hg => hg) | (intro hg; ((simp at hg; omega))))))
    refine gx (fun hc => (cf_order (p := s.2.getD s.1 []) (q := s.2.getD (s.1 - 1) []) (nsAt_32 hx2.2.2.2 s.1))) (fun hk => ⟨hk, ?_⟩)
    repeat (refine Ob.mk ?_ ?_; (focus (first | (intro _; exact Eq.refl _) | (exact fun hg => beq_t hg) | (exact fun hg => hg) | (intro hg; ((simp_all; done))))))
    refine ⟨fun h2 => ?_, fun h2 => ?_⟩
    · skip
      have c2 := h2
      (simp only [bsX] at c2)
      have hj : 0 < s.1 := by have := (c2).1; omega
      have hlt := ord_neg.1 (c2).2
      have e1 : ((s.1 : Int) - 1).toNat = s.1 - 1 := by omega
      have hM : swp s.2 (s.1 - 1) = (s.2.set s.1 (s.2.getD ((s.1 : Int) - 1).toNat [])).set ((s.1 : Int) - 1).toNat (s.2.getD s.1 []) := by rw [e1]; unfold swp; rw [Nat.sub_add_cancel hj]
      have hnx : s.1 - 1 ≤ k + 1 ∧ (swp s.2 (s.1 - 1)).length = ns.length ∧ insJ (s.1 - 1) (swp s.2 (s.1 - 1)) = insN ns (k + 1) ∧ ∀ x ∈ swp s.2 (s.1 - 1), x.length ≤ 32 := ⟨by have := hx2.1; omega, (swp_len _ _).trans hx2.2.1, (insJ_T hj hlt).symm.trans hx2.2.2.1, swp_mem hx2.2.2.2⟩
      have hle := hx2.1
      have hlen := hx2.2.1
      refine ⟨[0, 0, 0, 0, 8, 0, 0, 64, 224, 480, 0, 0, 3072, 7168, 16355, 32739, 65535, 131071], by kernel_rfl, ?_⟩
      repeat (refine Ob.mk ?_ ?_; focus (omega))
      refine ⟨(s.1 - 1, swp s.2 (s.1 - 1)), (by assumption), (by (simp only [SrcE.len, Nat.zero_add, List.length_append, List.length_cons, List.length_nil]; omega)), ?_⟩
      repeat (refine Ob.mk ?_ ?_; focus (first | (exact stN_swp (u := s.2.getD s.1 []) (v := s.2.getD ((s.1 : Int) - 1).toNat []) rfl rfl (show s.1 < s.2.length by omega) (by omega) hM) | (exact Eq.refl _) | omega))
      trivial
    · skip
      have c2 := h2
      (simp only [bsX] at c2)
      have hE : s.2 = insN ns (k + 1) := (insJ_F (fun q => by have h1 := ord_neg.2 q.2; have h2 := q.1; omega)).symm.trans hx2.2.2.1
      have hnx : (k + 1 = 0 ∨ k + 1 + 1 ≤ ns.length) ∧ ∀ x ∈ insN ns (k + 1), x.length ≤ 32 := ⟨by omega, hE ▸ hx2.2.2.2⟩
      repeat (refine Ob.mk ?_ ?_; focus (omega))
      refine ⟨k + 1, (by assumption), (by (simp only [SrcE.len, Nat.zero_add, List.length_append, List.length_cons, List.length_nil]; omega)), ?_⟩
      repeat (refine Ob.mk ?_ ?_; focus (first | (exact hE ▸ fun _ _ _ _ => rfl) | (exact Eq.refl _) | omega))
      trivial
  · skip
    have c1 := h1
    (simp only [bsX] at c1)
    have hO := insN_end (l := ns) (i := k + 1) (by omega) (by omega) (by omega)
    repeat (refine Ob.mk ?_ ?_; focus (first | (exact hO ▸ fun _ _ _ _ => rfl) | (exact Eq.refl _) | omega))
    trivial
set_option maxRecDepth 100000 in
set_option maxHeartbeats 4000000 in
theorem cf_nPdq {ns : List (List Bool)} {lim : Int} (hl : ns.length ≤ 12) (hb : ∀ x ∈ ns, x.length ≤ 32) : Cf Tryd.prog 87 [(0, .rz ns.length 2 (fun i j => netC (ns.getD i []) j) 51 0)] [.osl 0 ns.length, .i 0, .i (ns.length : Int), .i lim, .v (.func (.func 52) #[] #[])] [(0, .rz ns.length 2 (fun i j => netC ((sortN ns).getD i []) j) 51 0)] (.tup []) := by
  refine Cf.introR tabT {} (DR _ _ _ tabT {}) (by kernel_rfl) tab_ok Tryd.func87 Tryd.ntmps87 rfl rfl (DR_ok tab_ok (by kernel_rfl)) (by kernel_rfl) ?_
  refine ⟨Nat, fun k => ⟨[(0, .osl 0 ns.length), (1, .i 0), (2, .i (ns.length : Int)), (4, .v (.func (.func 52) #[] #[]))], [(0, .rz ns.length 2 (fun i j => netC (ns.getD i []) j) 51 0)]⟩, fun k => True, fun k => 0, 0, trivial, ?_, fun k hx1 => ?_⟩
  · skip
    repeat (refine Ob.mk ?_ ?_; (focus (first | (exact Eq.refl _) | omega | (intro hg; ((intro hq; ((simp_all; done))))))))
    trivial
  repeat (refine Ob.mk ?_ ?_; focus (omega))
  refine ⟨fun h1 => ?_, fun h1 => ?_⟩
  · skip
    have c1 := h1
    (simp only [bsX] at c1)
    refine ⟨_, _, _, _, (cf_nIns (Nat.le_trans hl (by decide)) hb), ?_⟩
    repeat (refine Ob.mk ?_ ?_; (focus (first | (exact Eq.refl _) | omega | (intro hg; ((intro hq; ((simp_all; done))))))))
    trivial
  · skip
    have c1 := h1
    (simp only [bsX] at c1)
    exact absurd c1 (by omega)
theorem cf_bLen {c : UInt64} : Cf Tryd.prog 88 [] [.u64 c] [] (.i (Lib.bitLen c.toNat : Int)) :=
  Cf.of (by kernel_rfl) fun w Pub φ vs hp hR => by
    obtain ⟨u, rfl, h1⟩ := ra1 hR
    have e : u = .int .u64 (c.toNat : Int) := by unfold EV.av RA RP at h1; exact h1
    subst e
    refine (Tryd.bits_Len (c.toNat : Int) w (by omega) (by have := c.toNat_lt; omega)).mono ?_
    rintro e w' ⟨rfl, rfl⟩
    exact ⟨by rw [Int.toNat_natCast], Below.refl _ _⟩
set_option maxRecDepth 100000 in
set_option maxHeartbeats 4000000 in
theorem cf_nSort {ns : List (List Bool)} (hl : ns.length ≤ 12) (hb : ∀ x ∈ ns, x.length ≤ 32) : Cf Tryd.prog 51 [(0, .rz ns.length 2 (fun i j => netC (ns.getD i []) j) 51 0)] [.osl 0 ns.length, .v (.func (.func 52) #[] #[])] [(0, .rz ns.length 2 (fun i j => netC ((sortN ns).getD i []) j) 51 0)] (.tup []) := by
  refine Cf.introR tabT {} D0 (by kernel_rfl) tab_ok Tryd.func51 Tryd.ntmps51 rfl rfl (D0_ok) (by kernel_rfl) ?_
  refine ⟨_, _, _, _, (cf_bLen (c := UInt64.ofNat ((ns.length : Int) % 18446744073709551616).toNat)), ?_⟩
  repeat (refine Ob.mk ?_ ?_; focus ((exact Eq.refl _)))
  refine ⟨_, _, _, _, (cf_nPdq (lim := (Lib.bitLen (UInt64.ofNat ((ns.length : Int) % 18446744073709551616).toNat).toNat : Int)) hl hb), ?_⟩
  repeat (refine Ob.mk ?_ ?_; (focus (first | (exact Eq.refl _) | omega | (intro hg; ((intro hq; ((simp_all; done))))))))
  trivial
end Go.Proofs.YtfpglljpngiipaaDoor
