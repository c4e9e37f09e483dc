/- package addr: contracts. -/
import Derived.Test.YtcebndkiagbddaaDoorAmb
import Derived.Test.YtcebndkiagbddaaDoorCLine
import Derived.Test.YtcebndkiagbddaaDoorBatchF
import Derived.Test.YtcebndkiagbddaaDoorCNet
import Derived.Test.YtcebndkiagbddaaDoorCAddrE
namespace Go.Proofs.YtcebndkiagbddaaDoor
open Go.RowKit Go.Lib
set_option linter.unusedVariables false
set_option linter.unusedSimpArgs false

/-- One of the four numbers of an address. -/
def byA (a : Nat) : Nat → Nat
  | 0 => a / 16777216 % 256
  | 1 => a / 65536 % 256
  | 2 => a / 256 % 256
  | _ => a % 256
theorem byA_lt (a i : Nat) : byA a i < 256 := by
  unfold byA; split <;> exact Nat.mod_lt _ (by decide)
theorem and255 (c : UInt32) : (c &&& UInt32.ofNat 255).toNat = c.toNat % 256 := by
  rw [UInt32.toNat_and, show (UInt32.ofNat 255).toNat = 2 ^ 8 - 1 from rfl, Nat.and_two_pow_sub_one_eq_mod]
theorem shr_nat (c : UInt32) (n : Nat) : (shr32 c n).toNat = c.toNat / 2 ^ n := by
  show (c.toNat >>> n) % 2 ^ 32 = _
  rw [Nat.shiftRight_eq_div_pow]
  exact Nat.mod_eq_of_lt (Nat.lt_of_le_of_lt (Nat.div_le_self _ _) (by have := c.toNat_lt; omega))
theorem by_at (a : UInt32) (n : Nat) {k : Nat} (h : byA a.toNat k = a.toNat / 2 ^ n % 256) : (((shr32 a n &&& UInt32.ofNat 255).toNat : Nat) : Int) = (byA a.toNat k : Int) := by
  rw [and255, shr_nat, h]
theorem adrT_map (a : Nat) : adrT a = Lib.join [decDigits (byA a 0), decDigits (byA a 1), decDigits (byA a 2), decDigits (byA a 3)] [46] := rfl
def quad (a : Nat) : List (List UInt8) := [decDigits (byA a 0), decDigits (byA a 1), decDigits (byA a 2), decDigits (byA a 3)]
theorem quad_at (a : Nat) : ∀ i, i < 4 → ∀ j, j < 1 → (fun u (v : Nat) => EV.s (decDigits (byA a u))) i j = (fun u v => EV.s ((quad a).getD u [])) i j := by
  intro i hi j hj
  match i, hi with
  | 0, _ => rfl
  | 1, _ => rfl
  | 2, _ => rfl
  | 3, _ => rfl
set_option maxRecDepth 100000 in
set_option maxHeartbeats 4000000 in
theorem cf_addrText {a : UInt32} : Cf Tryd.prog 68 [] [.u32 a] [] (.s (adrT a.toNat)) := by
  have hjl := adrT_len a.toNat
  have hJ := cf_Join (L := quad a.toNat) (sep := [46]) (show 4 ≤ 1100000 by decide) (show (adrT a.toNat).length ≤ 1100000 by omega)
  refine Cf.introR tabT {nl := [(3, 9, 1)]} D0 (by kernel_rfl) tab_ok Tryd.func68 Tryd.ntmps68 rfl rfl (D0_ok) (by kernel_rfl) ?_
  refine ⟨Nat, fun k => ⟨[(0, .u32 a), (3, .osl 1003 k), (4, .i (24 - 8 * (k : Int)))], [(1003, .rz k 1 (fun u v => .s (decDigits (byA a.toNat u))) 9 0)]⟩, fun k => k ≤ 4, fun k => 4 - k, 0, by omega, ?_, fun k hx1 => ?_⟩
  · skip
    repeat (refine Ob.mk ?_ ?_; focus (first | (exact Eq.refl _) | omega))
    trivial
  refine ⟨fun h1 => ?_, fun h1 => ?_⟩
  · skip
    have c1 := h1
    (simp only [bsX] at c1)
    have hk : k < 4 := by omega
    rcases (by omega : k = 0 ∨ k = 1 ∨ k = 2 ∨ k = 3) with rfl | rfl | rfl | rfl
    · skip
      repeat (refine Ob.mk ?_ ?_; focus (omega))
      refine ⟨_, _, _, _, (cf_ItoaN (u := byA a.toNat 0) (by_at a (24 - 8 * 0) (by rfl)) (by have := byA_lt a.toNat 0; omega)), ?_⟩
      repeat (refine Ob.mk ?_ ?_; focus (first | (exact Eq.refl _) | omega | (exact Nat.le_of_ble_eq_true rfl)))
      refine ⟨0 + 1, (by assumption), (by (exact Nat.le_of_ble_eq_true rfl)), ?_⟩
      repeat (refine Ob.mk ?_ ?_; (focus (first | (exact ln_snoc (fun _ _ _ _ => rfl) (fun j hj => by (obtain rfl : j = 0 := by omega); exact Eq.refl _)) | (exact Eq.refl _) | (exact Nat.le_of_ble_eq_true rfl))))
      trivial
    · skip
      repeat (refine Ob.mk ?_ ?_; focus (omega))
      refine ⟨_, _, _, _, (cf_ItoaN (u := byA a.toNat 1) (by_at a (24 - 8 * 1) (by rfl)) (by have := byA_lt a.toNat 1; omega)), ?_⟩
      repeat (refine Ob.mk ?_ ?_; focus (first | (exact Eq.refl _) | omega | (exact Nat.le_of_ble_eq_true rfl)))
      refine ⟨1 + 1, (by assumption), (by (exact Nat.le_of_ble_eq_true rfl)), ?_⟩
      repeat (refine Ob.mk ?_ ?_; (focus (first | (exact ln_snoc (fun _ _ _ _ => rfl) (fun j hj => by (obtain rfl : j = 0 := by omega); exact Eq.refl _)) | (exact Eq.refl _) | (exact Nat.le_of_ble_eq_true rfl))))
      trivial
    · skip
      repeat (refine Ob.mk ?_ ?_; focus (omega))
      refine ⟨_, _, _, _, (cf_ItoaN (u := byA a.toNat 2) (by_at a (24 - 8 * 2) (by rfl)) (by have := byA_lt a.toNat 2; omega)), ?_⟩
      repeat (refine Ob.mk ?_ ?_; focus (first | (exact Eq.refl _) | omega | (exact Nat.le_of_ble_eq_true rfl)))
      refine ⟨2 + 1, (by assumption), (by (exact Nat.le_of_ble_eq_true rfl)), ?_⟩
      repeat (refine Ob.mk ?_ ?_; (focus (first | (exact ln_snoc (fun _ _ _ _ => rfl) (fun j hj => by (obtain rfl : j = 0 := by omega); exact Eq.refl _)) | (exact Eq.refl _) | (exact Nat.le_of_ble_eq_true rfl))))
      trivial
    · skip
      repeat (refine Ob.mk ?_ ?_; focus (omega))
      refine ⟨_, _, _, _, (cf_ItoaN (u := byA a.toNat 3) (by_at a (24 - 8 * 3) (by simp [byA])) (by have := byA_lt a.toNat 3; omega)), ?_⟩
      repeat (refine Ob.mk ?_ ?_; focus (first | (exact Eq.refl _) | omega | (exact Nat.le_of_ble_eq_true rfl)))
      refine ⟨3 + 1, (by assumption), (by (exact Nat.le_of_ble_eq_true rfl)), ?_⟩
      repeat (refine Ob.mk ?_ ?_; (focus (first | (exact ln_snoc (fun _ _ _ _ => rfl) (fun j hj => by (obtain rfl : j = 0 := by omega); exact Eq.refl _)) | (exact Eq.refl _) | (exact Nat.le_of_ble_eq_true rfl))))
      trivial
  · skip
    have c1 := h1
    (simp only [bsX] at c1)
    have hk : k = 4 := by have : k ≤ 4 := hx1; omega
    subst hk
    refine ⟨_, _, _, _, hJ, ?_⟩
    repeat (refine Ob.mk ?_ ?_; focus (first | (exact quad_at _) | (exact Eq.refl _)))
    trivial
set_option maxRecDepth 100000 in
set_option maxHeartbeats 4000000 in
theorem cf_netText {p : List Bool} (hp : p.length ≤ 32) : Cf Tryd.prog 49 [] [netE p] [] (.tup [.s (netT p), .i 0]) := by
  have hA := cf_addrText (a := adr p)
  rw [adr_nat] at hA
  have hI := cf_ItoaN (u := p.length) (n := (p.length : Int)) rfl (by omega)
  have hT := adrT_len (adrN p)
  have hD := dec_len (u := p.length) (by omega)
  refine Cf.introR tabT {} (DR _ _ _ tabT {}) (by kernel_rfl) tab_ok Tryd.func49 Tryd.ntmps49 rfl rfl (DR_ok tab_ok (by kernel_rfl)) (by kernel_rfl) ?_
  refine ⟨_, _, _, _, (cf_nCheck hp), ?_⟩
  repeat (refine Ob.mk ?_ ?_; focus ((exact Eq.refl _)))
  refine ⟨fun h1 => ?_, fun h1 => ?_⟩
  · skip
    (simp only [Int.reduceToNat, UInt8.reduceOfNat] at h1)
    have c1 := h1
    (simp only [bsX] at c1)
    exact absurd (show false = true from h1) (by decide)
  · skip
    (simp only [Int.reduceToNat, UInt8.reduceOfNat] at h1)
    have c1 := h1
    (simp only [bsX] at c1)
    refine ⟨[0, 1, 3, 7, 0, 16, 55, 127, 255, 511], by kernel_rfl, ?_⟩
    refine ⟨_, _, _, _, hA, ?_⟩
    repeat (refine Ob.mk ?_ ?_; (focus (first | (simp only [List.length_append, List.length_cons, List.length_nil]; omega) | (exact Eq.refl _))))
    refine ⟨_, _, _, _, hI, ?_⟩
    repeat (refine Ob.mk ?_ ?_; (focus (first | (show adrT (adrN p) ++ [47] ++ decDigits p.length = adrT (adrN p) ++ 47 :: decDigits p.length; rw [List.append_assoc]; rfl) | (simp only [List.length_append, List.length_cons, List.length_nil]; omega) | (exact Eq.refl _))))
    trivial
theorem cf_nCheckA {a : UInt32} {n : Int} : Cf Tryd.prog 47 [] [.agg [.u32 a, .i n]] [] (.i (pcheck a.toNat n)) :=
  Cf.ofV (by kernel_rfl) (fun _ _ _ => ra_i) fun w Pub φ vs hp hR => by
    obtain ⟨u, rfl, h1⟩ := ra1 hR
    rw [nmA_R (k := (a, n)) h1]
    exact check_is _ _ _ w a.toNat_lt (Lib.hid rfl)
theorem netR_no {s : List UInt8} (h : (((47 : UInt8) ∉ s ∨ (adrR (bef 47 s)).2 ≠ 0) ∨ nbE (aft 47 s) 32 ≠ 0)) : netR s = ([], 3) := by
  unfold netR
  refine if_neg fun ⟨k1, k2, k3, k4⟩ => ?_
  have n1 : nbE (aft 47 s) 32 = 0 := by unfold nbE; rw [if_pos k3]
  rcases h with (h | h) | h
  · exact h k1
  · exact h k2
  · exact h n1
theorem netR_yes {s : List UInt8} (h : ¬ (((47 : UInt8) ∉ s ∨ (adrR (bef 47 s)).2 ≠ 0) ∨ nbE (aft 47 s) 32 ≠ 0)) : (47 : UInt8) ∈ s ∧ (adrR (bef 47 s)).2 = 0 ∧ smE (aft 47 s) 32 = true ∧ nbN (aft 47 s) 32 = (decV 0 (aft 47 s) : Int) ∧ decV 0 (aft 47 s) ≤ 32 ∧ (adrR (bef 47 s)).1 < 4294967296 := by
  rw [not_or, not_or] at h
  obtain ⟨⟨h1, h2⟩, h3⟩ := h
  have n3 : smE (aft 47 s) 32 = true := by
    cases q : smE (aft 47 s) 32 with
    | true => rfl
    | false => exact absurd (by unfold nbE at h3; rw [q] at h3; exact absurd (by decide) h3) h3
  have n2 : nbN (aft 47 s) 32 = smN (aft 47 s) := by unfold nbN; rw [if_pos n3]
  obtain ⟨k1, k2, k3⟩ := sm_ok n3
  have h2' := Decidable.not_not.1 h2
  exact ⟨Decidable.not_not.1 h1, h2', n3, by rw [n2, k2], by omega, (adr_turns h2').2⟩
theorem net_bad {a n : Nat} (ha : a < 4294967296) (hn : n ≤ 32) (h : pcheck (UInt32.ofNat a).toNat (n : Int) ≠ 0) : pcut a n ≠ a := fun e => h (pcheck_zero.2 ⟨by omega, by omega, by
  have : (UInt32.ofNat a).toNat = a := Nat.mod_eq_of_lt (by omega)
  rw [this, Int.toNat_natCast, ← e]; exact pcut_mod _ _⟩)
theorem net_okk {a n : Nat} (ha : a < 4294967296) (hn : n ≤ 32) (h : pcheck (UInt32.ofNat a).toNat (n : Int) = 0) : pcut a n = a ∧ EV.agg [.u32 (UInt32.ofNat a), .i (n : Int)] = netE (pathN a n) := by
  have v := pcheck_zero.1 h
  have e : (UInt32.ofNat a).toNat = a := Nat.mod_eq_of_lt (by omega)
  have m := v.2.2
  rw [e, Int.toNat_natCast] at m
  refine ⟨pcut_of_mod m, ?_⟩
  have k := adr_path (UInt32.ofNat a) hn v
  rw [e] at k
  show _ = EV.agg [.u32 (adr (pathN a n)), .i ((pathN a n).length : Int)]
  rw [k, pathN_len]
set_option maxRecDepth 100000 in
set_option maxHeartbeats 4000000 in
theorem cf_netParse {s : List UInt8} (hl : s.length ≤ 1100000) : Cf Tryd.prog 30 [] [.s s] [] (.tup [netE (netR s).1, .i (netR s).2]) := by
  have hb := bef_len_le 47 s
  have ha : (aft 47 s).length ≤ s.length := by
    by_cases h : (47 : UInt8) ∈ s
    · have := congrArg List.length (bef_aft h); rw [List.length_append, List.length_cons] at this; omega
    · rw [aft_out h]; simp
  refine Cf.introR tabT {} D0 (by kernel_rfl) tab_ok Tryd.func30 Tryd.ntmps30 rfl rfl (D0_ok) (by kernel_rfl) ?_
  refine ⟨_, _, _, _, (cf_Cut1 (l := s) (c := 47) hl), ?_⟩
  repeat (refine Ob.mk ?_ ?_; focus ((exact Eq.refl _)))
  refine ⟨_, _, _, _, (cf_adrParse (s := bef 47 s) (by omega)), ?_⟩
  repeat (refine Ob.mk ?_ ?_; focus ((exact Eq.refl _)))
  refine ⟨_, _, _, _, (cf_Number (s := aft 47 s) (most := 32) (by omega)), ?_⟩
  repeat (refine Ob.mk ?_ ?_; focus (first | (exact Eq.refl _) | (exact fun hg => beq_f hg) | (exact fun hg => hg)))
  refine ⟨fun h1 => ?_, fun h1 => ?_⟩
  · skip
    have c1 := h1
    (simp only [bsX] at c1)
    have hR := netR_no (s := s) (by simpa using h1)
    repeat (refine Ob.mk ?_ ?_; (focus (first | (rw [hR]; done) | (rw [hR]; rfl))))
    trivial
  · skip
    have c1 := h1
    (simp only [bsX] at c1)
    obtain ⟨y1, y2, y3, y4, y5, y6⟩ := netR_yes (s := s) (by simpa using h1)
    have hC := cf_nCheckA (a := UInt32.ofNat (adrR (bef 47 s)).1) (n := nbN (aft 47 s) 32)
    refine ⟨_, _, _, _, hC, ?_⟩
    repeat (refine Ob.mk ?_ ?_; focus ((exact Eq.refl _)))
    refine ⟨fun h2 => ?_, fun h2 => ?_⟩
    · skip
      have c2 := h2
      (simp only [bsX] at c2)
      have hz : pcheck (UInt32.ofNat (adrR (bef 47 s)).1).toNat ((decV 0 (aft 47 s) : Nat) : Int) ≠ 0 := by rw [← y4]; simpa using h2
      have hR : netR s = ([], 3) := by unfold netR; exact if_neg fun q => net_bad y6 y5 hz q.2.2.2
      repeat (refine Ob.mk ?_ ?_; (focus (first | (rw [hR]; done) | (rw [hR]; rfl))))
      trivial
    · skip
      have c2 := h2
      (simp only [bsX] at c2)
      have hz : pcheck (UInt32.ofNat (adrR (bef 47 s)).1).toNat ((decV 0 (aft 47 s) : Nat) : Int) = 0 := by rw [← y4]; simpa using h2
      obtain ⟨hcut, hnet⟩ := net_okk y6 y5 hz
      have hR : netR s = (pathN (adrR (bef 47 s)).1 (decV 0 (aft 47 s)), 0) := by unfold netR; exact if_pos ⟨y1, y2, y3, hcut⟩
      have hn1 : adr (netR s).1 = UInt32.ofNat (adrR (bef 47 s)).1 := by rw [hR]; have := EV.agg.inj hnet; simp at this; exact this.1.symm
      have hn2 : (((netR s).1.length : Nat) : Int) = nbN (aft 47 s) 32 := by rw [hR, y4, pathN_len]
      repeat (refine Ob.mk ?_ ?_; (focus (first | (rw [hR]; done) | (exact hn1.symm) | (exact hn2.symm))))
      trivial
end Go.Proofs.YtcebndkiagbddaaDoor
