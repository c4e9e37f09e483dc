/- Nets of configurations: contracts. -/
import Derived.Test.YtfpglljpngiipaaDoorConfF
import Derived.Test.YtfpglljpngiipaaDoorConv
namespace Go.Proofs.YtfpglljpngiipaaDoor
open Go.RowKit
set_option linter.unusedVariables false
set_option linter.unusedSimpArgs false

theorem netEqB {p q : List Bool} (hp : p.length ≤ 32) : (decide (adr p = adr q) && decide ((p.length : Int) = (q.length : Int))) = decide (p = q) := by
  by_cases h : p = q
  · subst h; simp
  · rw [decide_eq_false h]
    cases e : (decide (adr p = adr q) && decide ((p.length : Int) = (q.length : Int))) with
    | false => rfl
    | true =>
      rw [Bool.and_eq_true, decide_eq_true_eq, decide_eq_true_eq] at e
      exact absurd (adr_inj (by omega) hp e.1) h
theorem adr_eqN {p q : List Bool} : adr p = adr q ↔ adrN p = adrN q := by rw [← UInt32.toNat_inj, adr_nat, adr_nat]
theorem ltB_code {p q : List Bool} : (decide ((adr p).toNat < (adr q).toNat) || decide (adr p = adr q) && decide ((p.length : Int) < (q.length : Int))) = ltB p q := by
  unfold ltB
  rw [adr_nat, adr_nat]
  have e : decide (adr p = adr q) = decide (adrN p = adrN q) := decide_eq_decide.2 adr_eqN
  have e2 : decide ((p.length : Int) < (q.length : Int)) = decide (p.length < q.length) := decide_eq_decide.2 Int.ofNat_lt
  rw [e, e2]
theorem ord_lt {p q : List Bool} (h : ltB p q = true) : ordN p q = -1 := if_pos h
theorem ord_eq {p q : List Bool} (h : ltB p q = false) (e : decide (p = q) = true) : ordN p q = 0 := by
  unfold ordN; rw [if_neg (by rw [h]; decide), if_pos (of_decide_eq_true e)]
theorem ord_gt {p q : List Bool} (h : ltB p q = false) (e : decide (p = q) = false) : ordN p q = 1 := by
  unfold ordN; rw [if_neg (by rw [h]; decide), if_neg (of_decide_eq_false e)]
theorem nets_snoc {L M : List (List Bool)} {n : List Bool} {X : List EV} (hX : X = [.u32 (adr n), .i (n.length : Int)]) (hM : M = L ++ [n]) : ∀ a, a < L.length + 1 → ∀ j, j < 2 → (bif Nat.blt a L.length then netC (L.getD a []) j else X.getD ((a - L.length) * 2 + j) .any) = netC (M.getD a []) j := by
  subst hX hM
  refine ln_snoc (f := fun a j => netC (L.getD a []) j) (g := fun a j => netC ((L ++ [n]).getD a []) j) (m := [.u32 (adr n), .i (n.length : Int)]) (sz := 2) (fun b hb j _ => ?_) (fun j hj => ?_)
  · show netC (L.getD b []) j = netC ((L ++ [n]).getD b []) j
    rw [List.getD_eq_getElem?_getD, List.getD_eq_getElem?_getD, List.getElem?_append_left hb]
  · show _ = netC ((L ++ [n]).getD L.length []) j
    rw [List.getD_eq_getElem?_getD (l := L ++ [n]), List.getElem?_append_right (Nat.le_refl _), Nat.sub_self]
    have : j = 0 ∨ j = 1 := by omega
    rcases this with rfl | rfl <;> rfl
theorem peers_snoc {L M : List PeerS} {p : PeerS} {X : List EV} (hX : X = [.s p.k, .s p.s, .s p.e, .i p.a, netsE p.ns]) (hM : M = L ++ [p]) : ∀ a, a < L.length + 1 → ∀ j, j < 5 → (bif Nat.blt a L.length then peerC (L.getD a peer0) j else X.getD ((a - L.length) * 5 + j) .any) = peerC (M.getD a peer0) j := by
  subst hX hM
  refine ln_snoc (f := fun a j => peerC (L.getD a peer0) j) (g := fun a j => peerC ((L ++ [p]).getD a peer0) j) (m := [.s p.k, .s p.s, .s p.e, .i p.a, netsE p.ns]) (sz := 5) (fun b hb j _ => ?_) (fun j hj => ?_)
  · show peerC (L.getD b peer0) j = peerC ((L ++ [p]).getD b peer0) j
    rw [List.getD_eq_getElem?_getD, List.getD_eq_getElem?_getD, List.getElem?_append_left hb]
  · show _ = peerC ((L ++ [p]).getD L.length peer0) j
    rw [List.getD_eq_getElem?_getD (l := L ++ [p]), List.getElem?_append_right (Nat.le_refl _), Nat.sub_self]
    have : j = 0 ∨ j = 1 ∨ j = 2 ∨ j = 3 ∨ j = 4 := by omega
    rcases this with rfl | rfl | rfl | rfl | rfl <;> rfl
theorem eqN {L M : List (List Bool)} (h : L = M) : ∀ a, a < L.length → ∀ b, b < 2 → netC (L.getD a []) b = netC (M.getD a []) b := fun _ _ _ _ => by rw [h]
theorem eqP {L M : List PeerS} (h : L = M) : ∀ a, a < L.length → ∀ b, b < 5 → peerC (L.getD a peer0) b = peerC (M.getD a peer0) b := fun _ _ _ _ => by rw [h]
set_option maxRecDepth 100000 in
set_option maxHeartbeats 4000000 in
theorem cf_order {p q : List Bool} (hp : p.length ≤ 32) : Cf Tryd.prog 52 [] [netE p, netE q] [] (.i (ordN p q)) := by
  refine Cf.introR tabT {} D0 (by kernel_rfl) tab_ok Tryd.func52 Tryd.ntmps52 rfl rfl (D0_ok) (by kernel_rfl) ?_
  repeat (refine Ob.mk ?_ ?_; (focus (first | (exact fun hg => beq_f hg) | (exact fun hg => hg) | (intro hg; ((intro hq; exact and_i hg (beq_t hq)))))))
  refine ⟨fun h1 => ?_, fun h1 => ?_⟩
  · skip
    have c1 := h1
    (simp only [bsX] at c1)
    have hO := ord_lt (ltB_code.symm.trans h1)
    repeat (refine Ob.mk ?_ ?_; focus (exact hO.symm))
    trivial
  · skip
    have c1 := h1
    (simp only [bsX] at c1)
    have hL := ltB_code.symm.trans h1
    refine ⟨fun h2 => ?_, fun h2 => ?_⟩
    · skip
      have c2 := h2
      (simp only [bsX] at c2)
      have hO := ord_eq hL ((netEqB hp).symm.trans h2)
      repeat (refine Ob.mk ?_ ?_; focus (exact hO.symm))
      trivial
    · skip
      have c2 := h2
      (simp only [bsX] at c2)
      have hO := ord_gt hL ((netEqB hp).symm.trans h2)
      repeat (refine Ob.mk ?_ ?_; focus (exact hO.symm))
      trivial
/-- Where a net stands, or -1. -/
def idxN (ns : List (List Bool)) (n : List Bool) : Int := if n ∈ ns then (ns.idxOf n : Int) else -1
theorem idx_at {ns : List (List Bool)} {n : List Bool} {k : Nat} (hk : k < ns.length) (hb : ∀ i, i < k → ns.getD i [] ≠ n) (h : ns.getD k [] = n) : idxN ns n = (k : Int) := by
  have g : ∀ i (hi : i < ns.length), ns.getD i [] = ns[i] := fun i hi => by rw [List.getD_eq_getElem?_getD, List.getElem?_eq_getElem hi]; rfl
  have hm : n ∈ ns := by rw [← h, g k hk]; exact List.getElem_mem hk
  unfold idxN
  rw [if_pos hm]
  have h1 := List.idxOf_lt_length_of_mem hm
  have h2 : ns.idxOf n = k := by
    rcases Nat.lt_trichotomy (ns.idxOf n) k with q | q | q
    · exact absurd ((g _ h1).trans (List.getElem_idxOf h1)) (hb _ q)
    · exact q
    · have := List.not_of_lt_findIdx (p := (· == n)) (xs := ns) (i := k) q
      rw [← g k hk, h] at this
      simp at this
  rw [h2]
theorem idx_no {ns : List (List Bool)} {n : List Bool} (hb : ∀ i, i < ns.length → ns.getD i [] ≠ n) : idxN ns n = -1 := by
  unfold idxN
  rw [if_neg]
  intro h
  obtain ⟨i, hi, e⟩ := List.mem_iff_getElem.1 h
  refine hb i hi ?_
  rw [List.getD_eq_getElem?_getD, List.getElem?_eq_getElem hi]; exact e
theorem idx_mem {ns : List (List Bool)} {n : List Bool} : decide (0 ≤ idxN ns n) = decide (n ∈ ns) := by
  unfold idxN
  by_cases h : n ∈ ns
  · rw [if_pos h]; simp [h]
  · rw [if_neg h]; simp [h]
theorem nsAt_32 {ns : List (List Bool)} (hb : ∀ x ∈ ns, x.length ≤ 32) (i : Nat) : (ns.getD i []).length ≤ 32 := by
  rw [List.getD_eq_getElem?_getD]
  cases h : ns[i]? with
  | none => exact Nat.zero_le _
  | some x => exact hb x (List.mem_of_getElem? h)
set_option maxRecDepth 100000 in
set_option maxHeartbeats 4000000 in
theorem cf_netIdx {ns : List (List Bool)} {n : List Bool} (hl : ns.length ≤ 1000) (hn : n.length ≤ 32) : Cf Tryd.prog 86 [(0, .rz ns.length 2 (fun i j => netC (ns.getD i []) j) 51 0)] [.osl 0 ns.length, netE n] [(0, .rz ns.length 2 (fun i j => netC (ns.getD i []) j) 51 0)] (.i (idxN ns n)) := by
  refine Cf.introR tabT {} (DR _ _ _ tabT {}) (by kernel_rfl) tab_ok Tryd.func86 Tryd.ntmps86 rfl rfl (DR_ok tab_ok (by kernel_rfl)) (by kernel_rfl) ?_
  refine ⟨Nat, fun k => ⟨[(0, .osl 0 ns.length), (3, .own 1003 0), (7, .i (ns.length : Int)), (8, .i (k : Int))], [(0, .rz ns.length 2 (fun i j => netC (ns.getD i []) j) 51 0), (1003, .box [.u32 (adr n), .i (n.length : Int)] 51)]⟩, fun k => k ≤ ns.length ∧ ∀ i, i < k → ns.getD i [] ≠ n, fun k => ns.length - k, 0, ⟨Nat.zero_le _, fun i hi => absurd hi (Nat.not_lt_zero _)⟩, ?_, fun k hx1 => ?_⟩
  · skip
    repeat (refine Ob.mk ?_ ?_; (focus (first | (exact Eq.refl _) | omega | (intro hg; ((intro hq; ((simp_all; done))))))))
    trivial
  refine ⟨fun h1 => ?_, fun h1 => ?_⟩
  · skip
    have c1 := h1
    (simp only [bsX] at c1)
    have hk : k < ns.length := by omega
    refine ⟨[0, 0, 0, 6, 14, 31], by kernel_rfl, ?_⟩
    repeat (refine Ob.mk ?_ ?_; focus (first | assumption | omega))
    refine ⟨fun h2 => ?_, fun h2 => ?_⟩
    · skip
      have c2 := h2
      (simp only [bsX] at c2)
      have hO := idx_at hk hx1.2 (of_decide_eq_true ((netEqB hn).symm.trans h2)).symm
      repeat (refine Ob.mk ?_ ?_; (focus (first | exact hO.symm | (exact Eq.refl _) | omega | (intro hg; ((intro hq; ((simp_all; done))))))))
      trivial
    · skip
      have c2 := h2
      (simp only [bsX] at c2)
      have hO := of_decide_eq_false ((netEqB hn).symm.trans h2)
      repeat (refine Ob.mk ?_ ?_; focus (omega))
      have hnx : k + 1 ≤ ns.length ∧ ∀ i, i < k + 1 → ns.getD i [] ≠ n := ⟨hk, fun i hi => (Nat.lt_or_ge i k).elim (hx1.2 i) fun q e => hO (by rw [← e, show i = k from by omega]; rfl)⟩
      refine ⟨k + 1, (by assumption), (by (simp only [SrcE.len, Nat.zero_add, List.length_append, List.length_cons, List.length_nil]; omega)), ?_⟩
      repeat (refine Ob.mk ?_ ?_; (focus (first | (exact Eq.refl _) | omega | (intro hg; ((intro hq; ((simp_all; done))))))))
      trivial
  · skip
    have c1 := h1
    (simp only [bsX] at c1)
    have hO := idx_no (ns := ns) (n := n) fun i hi => hx1.2 i (by omega)
    repeat (refine Ob.mk ?_ ?_; (focus (first | exact hO.symm | (exact Eq.refl _) | omega | (intro hg; ((intro hq; ((simp_all; done))))))))
    trivial
set_option maxRecDepth 100000 in
set_option maxHeartbeats 4000000 in
theorem cf_netHas {ns : List (List Bool)} {n : List Bool} (hl : ns.length ≤ 1000) (hn : n.length ≤ 32) : Cf Tryd.prog 50 [(0, .rz ns.length 2 (fun i j => netC (ns.getD i []) j) 51 0)] [.osl 0 ns.length, netE n] [(0, .rz ns.length 2 (fun i j => netC (ns.getD i []) j) 51 0)] (.b (decide (n ∈ ns))) := by
  refine Cf.introR tabT {} D0 (by kernel_rfl) tab_ok Tryd.func50 Tryd.ntmps50 rfl rfl (D0_ok) (by kernel_rfl) ?_
  refine ⟨_, _, _, _, (cf_netIdx hl hn), ?_⟩
  repeat (refine Ob.mk ?_ ?_; (focus (first | exact idx_mem | (exact Eq.refl _) | omega | (intro hg; ((intro hq; ((simp_all; done))))))))
  trivial
set_option maxRecDepth 100000 in
set_option maxHeartbeats 4000000 in
theorem cf_isN {p n : List Bool} (hp : p.length ≤ 32) : Cf Tryd.prog 54 [] [netE p, .pp [.u32 (adr n), .i (n.length : Int)] 0] [] (.b (decide (p = n))) := by
  refine Cf.introR tabT {} D0 (by kernel_rfl) tab_ok Tryd.func54 Tryd.ntmps54 rfl rfl (D0_ok) (by kernel_rfl) ?_
  repeat (refine Ob.mk ?_ ?_; focus (exact netEqB hp))
  trivial
set_option maxRecDepth 100000 in
set_option maxHeartbeats 4000000 in
theorem cf_nIdxF {ns : List (List Bool)} {n : List Bool} (hl : ns.length ≤ 1000) (hb : ∀ x ∈ ns, x.length ≤ 32) : Cf Tryd.prog 89 [(0, .rz ns.length 2 (fun i j => netC (ns.getD i []) j) 51 0)] [.osl 0 ns.length, .fn 54 [.pp [.u32 (adr n), .i (n.length : Int)] 0]] [(0, .rz ns.length 2 (fun i j => netC (ns.getD i []) j) 51 0)] (.i (idxN ns n)) := by
  refine Cf.introR tabT {} D0 (by kernel_rfl) tab_ok Tryd.func89 Tryd.ntmps89 rfl rfl (D0_ok) (by kernel_rfl) ?_
  refine ⟨Nat, fun k => ⟨[(0, .osl 0 ns.length), (1, .fn 54 [.pp [.u32 (adr n), .i (n.length : Int)] 0]), (7, .i (ns.length : Int)), (8, .i (k : Int))], [(0, .rz ns.length 2 (fun i j => netC (ns.getD i []) j) 51 0)]⟩, fun k => k ≤ ns.length ∧ ∀ i, i < k → ns.getD i [] ≠ n, fun k => ns.length - k, 0, ⟨Nat.zero_le _, fun i hi => absurd hi (Nat.not_lt_zero _)⟩, ?_, fun k hx1 => ?_⟩
  · skip
    repeat (refine Ob.mk ?_ ?_; (focus (first | (exact Eq.refl _) | omega | (intro hg; ((intro hq; ((simp_all; done))))))))
    trivial
  refine ⟨fun h1 => ?_, fun h1 => ?_⟩
  · skip
    have c1 := h1
    (simp only [bsX] at c1)
    have hk : k < ns.length := by omega
    repeat (refine Ob.mk ?_ ?_; focus (first | assumption | omega))
    refine ⟨_, _, _, _, (cf_isN (n := n) (nsAt_32 hb k)), ?_⟩
    repeat (refine Ob.mk ?_ ?_; focus ((exact Eq.refl _)))
    refine ⟨fun h2 => ?_, fun h2 => ?_⟩
    · skip
      have c2 := h2
      (simp only [bsX] at c2)
      have hO := idx_at hk hx1.2 (of_decide_eq_true h2)
      repeat (refine Ob.mk ?_ ?_; (focus (first | exact hO.symm | (exact Eq.refl _) | omega | (intro hg; ((intro hq; ((simp_all; done))))))))
      trivial
    · skip
      have c2 := h2
      (simp only [bsX] at c2)
      have hO := of_decide_eq_false h2
      repeat (refine Ob.mk ?_ ?_; focus (omega))
      have hnx : k + 1 ≤ ns.length ∧ ∀ i, i < k + 1 → ns.getD i [] ≠ n := ⟨hk, fun i hi => (Nat.lt_or_ge i k).elim (hx1.2 i) fun q e => hO (by rw [← e, show i = k from by omega])⟩
      refine ⟨k + 1, (by assumption), (by (simp only [SrcE.len, Nat.zero_add, List.length_append, List.length_cons, List.length_nil]; omega)), ?_⟩
      repeat (refine Ob.mk ?_ ?_; (focus (first | (exact Eq.refl _) | omega | (intro hg; ((intro hq; ((simp_all; done))))))))
      trivial
  · skip
    have c1 := h1
    (simp only [bsX] at c1)
    have hO := idx_no (ns := ns) (n := n) fun i hi => hx1.2 i (by omega)
    repeat (refine Ob.mk ?_ ?_; (focus (first | exact hO.symm | (exact Eq.refl _) | omega | (intro hg; ((intro hq; ((simp_all; done))))))))
    trivial
theorem cf_nIdxAt {ns : List (List Bool)} {n : List Bool} {k : Int} (hl : ns.length ≤ 1000) (hb : ∀ x ∈ ns, x.length ≤ 32) (h : idxN ns n = k) : Cf Tryd.prog 89 [(0, .rz ns.length 2 (fun i j => netC (ns.getD i []) j) 51 0)] [.osl 0 ns.length, .fn 54 [.pp [.u32 (adr n), .i (n.length : Int)] 0]] [(0, .rz ns.length 2 (fun i j => netC (ns.getD i []) j) 51 0)] (.i k) := h ▸ cf_nIdxF hl hb
set_option maxRecDepth 100000 in
set_option maxHeartbeats 4000000 in
theorem cf_nDelNO {ns : List (List Bool)} {n : List Bool} (hl : ns.length ≤ 1000) (hb : ∀ x ∈ ns, x.length ≤ 32) (hI : idxN ns n = -1) : Cf Tryd.prog 53 [(0, .rz ns.length 2 (fun i j => netC (ns.getD i []) j) 51 0)] [.osl 0 ns.length, .fn 54 [.pp [.u32 (adr n), .i (n.length : Int)] 0]] [(0, .rz ns.length 2 (fun i j => netC (ns.getD i []) j) 51 0)] (.osl 0 ns.length) := by
  refine Cf.introR tabT {} D0 (by kernel_rfl) tab_ok Tryd.func53 Tryd.ntmps53 rfl rfl (D0_ok) (by kernel_rfl) ?_
  refine ⟨_, _, _, _, (cf_nIdxAt hl hb hI), ?_⟩
  repeat (refine Ob.mk ?_ ?_; (focus (first | (exact Eq.refl _) | omega | (intro hg; ((intro hq; ((simp_all; done))))))))
  refine ⟨fun h1 => ?_, fun h1 => ?_⟩
  · skip
    (simp only [Int.reduceToNat, UInt8.reduceOfNat] at h1)
    have c1 := h1
    (simp only [bsX] at c1)
    repeat (refine Ob.mk ?_ ?_; (focus (first | (exact Eq.refl _) | omega | (intro hg; ((intro hq; ((simp_all; done))))))))
    trivial
  · skip
    (simp only [Int.reduceToNat, UInt8.reduceOfNat] at h1)
    have c1 := h1
    (simp only [bsX] at c1)
    exact absurd (show true = false from h1) (by decide)
structure DelI (ns : List (List Bool)) (n : List Bool) (k : Nat) (L : List (List Bool)) : Prop where
  le : k ≤ ns.length
  len : L.length = ns.length
  tk : L.take (delN (ns.take k) n).length = delN (ns.take k) n
  dr : L.drop k = ns.drop k
  lt : (delN (ns.take k) n).length < k
section
variable {ns : List (List Bool)} {n : List Bool} {k : Nat} {L : List (List Bool)}
theorem getD_of {l m : List (List Bool)} {k i : Nat} (h : l.drop k = m.drop k) (hi : k ≤ i) : l.getD i [] = m.getD i [] := by
  have e : ∀ l : List (List Bool), (l.drop k).getD (i - k) [] = l.getD i [] := fun l => by
    rw [List.getD_eq_getElem?_getD, List.getD_eq_getElem?_getD, List.getElem?_drop, show k + (i - k) = i from by omega]
  rw [← e l, ← e m, h]
theorem delN_ne (hk : k < ns.length) (h : ns.getD k [] ≠ n) : delN (ns.take (k + 1)) n = delN (ns.take k) n ++ [ns.getD k []] := by
  rw [List.getD_eq_getElem?_getD, List.getElem?_eq_getElem hk] at h ⊢
  unfold delN
  rw [List.take_succ_eq_append_getElem hk, List.filter_append]
  congr 1
  simpa using h
theorem delN_eq (hk : k < ns.length) (h : ns.getD k [] = n) : delN (ns.take (k + 1)) n = delN (ns.take k) n := by
  rw [List.getD_eq_getElem?_getD, List.getElem?_eq_getElem hk] at h
  unfold delN
  rw [List.take_succ_eq_append_getElem hk, List.filter_append]
  have e : List.filter (fun m => !decide (m = n)) [ns[k]] = [] := by
    have : ns[k] = n := h
    rw [this]; simp
  rw [e, List.append_nil]
theorem DelI.ne (h : DelI ns n k L) (hk : k < ns.length) (e : ns.getD k [] ≠ n) : DelI ns n (k + 1) (L.set (delN (ns.take k) n).length (ns.getD k [])) := by
  have h1 := h.lt; have h2 := h.len
  have hs := delN_ne hk e
  have hl : (delN (ns.take (k + 1)) n).length = (delN (ns.take k) n).length + 1 := by rw [hs]; simp
  refine ⟨hk, by rw [List.length_set]; exact h2, ?_, ?_, by omega⟩
  · rw [hl, hs, List.take_succ_eq_append_getElem (by rw [List.length_set]; omega), List.take_set_of_le (Nat.le_refl _), h.tk]
    simp
  · rw [List.drop_set_of_lt (by omega)]
    have := congrArg (List.drop 1) h.dr
    rw [List.drop_drop, List.drop_drop] at this
    exact this
theorem DelI.eq (h : DelI ns n k L) (hk : k < ns.length) (e : ns.getD k [] = n) : DelI ns n (k + 1) L := by
  have h1 := h.lt
  rw [← delN_eq hk e] at h1
  refine ⟨hk, h.len, by rw [delN_eq hk e]; exact h.tk, ?_, by omega⟩
  have := congrArg (List.drop 1) h.dr
  rw [List.drop_drop, List.drop_drop] at this
  exact this
theorem DelI.fin (h : DelI ns n k L) (hk : k = ns.length) : delN (ns.take k) n = delN ns n ∧ ∀ i, i < (delN ns n).length → L.getD i [] = (delN ns n).getD i [] := by
  subst hk
  have h3 := h.tk
  rw [List.take_length] at h3 ⊢
  refine ⟨rfl, fun i hi => ?_⟩
  have := congrArg (fun l => l.getD i []) h3
  simp only [List.getD_eq_getElem?_getD, List.getElem?_take, if_pos hi] at this
  rw [List.getD_eq_getElem?_getD, this, List.getD_eq_getElem?_getD]
end
theorem stN_set {L M : List (List Bool)} {i m : Nat} {v : List Bool} {X : List EV} (hX : X = [.u32 (adr v), .i (v.length : Int)]) (hi : i < L.length) (hM : M = L.set i v) : ∀ a, a < m → ∀ b, b < 2 → stZ (fun i j => netC (L.getD i []) j) i 0 X a b = netC (M.getD a []) b := by
  intro a _ b hb
  subst hX hM
  unfold stZ
  rw [List.getD_eq_getElem?_getD (l := L.set i v)]
  by_cases e : a = i
  · subst e
    rw [List.getElem?_set_self hi]
    have hq : b = 0 ∨ b = 1 := by omega
    rcases hq with rfl | rfl <;> (simp [netC]; rfl)
  · have : Nat.beq a i = false := by
      cases q : Nat.beq a i with
      | false => rfl
      | true => exact absurd (Nat.eq_of_beq_eq_true q) e
    rw [this, List.getElem?_set_ne (Ne.symm e)]
    simp [List.getD_eq_getElem?_getD]
set_option maxRecDepth 100000 in
set_option maxHeartbeats 4000000 in
theorem cf_nDelYO {ns : List (List Bool)} {n : List Bool} {k0 : Nat} (hl : ns.length ≤ 1000) (hb : ∀ x ∈ ns, x.length ≤ 32) (hI : idxN ns n = (k0 : Int)) (h0 : (delN (ns.take (k0 + 1)) n).length = k0) (hk : DelI ns n (k0 + 1) ns) : Cf Tryd.prog 53 [(0, .rz ns.length 2 (fun i j => netC (ns.getD i []) j) 51 0)] [.osl 0 ns.length, .fn 54 [.pp [.u32 (adr n), .i (n.length : Int)] 0]] [(0, .rz (delN ns n).length 2 (fun i j => netC ((delN ns n).getD i []) j) 51 0)] (.osl 0 (delN ns n).length) := by
  have hk1 := hk.le
  refine Cf.introR tabT {cut := [38, 41]} D0 (by kernel_rfl) tab_ok Tryd.func53 Tryd.ntmps53 rfl rfl (D0_ok) (by kernel_rfl) ?_
  refine ⟨_, _, _, _, (cf_nIdxAt hl hb hI), ?_⟩
  repeat (refine Ob.mk ?_ ?_; (focus (first | (exact Eq.refl _) | omega | (intro hg; ((intro hq; ((simp_all; done))))))))
  refine ⟨fun h1 => ?_, fun h1 => ?_⟩
  · skip
    have c1 := h1
    (simp only [bsX] at c1)
    exact absurd c1 (by omega)
  · skip
    have c1 := h1
    (simp only [bsX] at c1)
    repeat (refine Ob.mk ?_ ?_; focus (omega))
    refine ⟨Nat × List (List Bool), fun s => ⟨[(0, .osl 0 ns.length), (1, .fn 54 [.pp [.u32 (adr n), .i (n.length : Int)] 0]), (5, .i ((delN (ns.take s.1) n).length : Int)), (6, .i (s.1 : Int))], [(0, .rz ns.length 2 (fun i j => netC (s.2.getD i []) j) 51 0)]⟩, fun s => DelI ns n s.1 s.2, fun s => ns.length - s.1, (k0 + 1, ns), hk, ?_, fun s hx1 => ?_⟩
    · skip
      repeat (refine Ob.mk ?_ ?_; (focus (first | (exact Eq.refl _) | omega | (simp only [SrcE.len, Nat.zero_add, List.length_append, List.length_cons, List.length_nil]; omega) | (intro hg; ((intro hq; ((simp_all; done))))))))
      trivial
    refine ⟨fun h2 => ?_, fun h2 => ?_⟩
    · skip
      have c2 := h2
      (simp only [bsX] at c2)
      have hj : s.1 < ns.length := by omega
      have hg : s.2.getD s.1 [] = ns.getD s.1 [] := getD_of hx1.dr (Nat.le_refl _)
      have hlt := hx1.lt
      have hlen := hx1.len
      repeat (refine Ob.mk ?_ ?_; focus (first | assumption | omega))
      refine ⟨_, _, _, _, (cf_isN (n := n) (nsAt_32 hb s.1)), ?_⟩
      repeat (refine Ob.mk ?_ ?_; (focus (first | (rw [Int.toNat_natCast, hg]; done) | (exact Eq.refl _))))
      refine ⟨fun h3 => ?_, fun h3 => ?_⟩
      · skip
        have c3 := h3
        (simp only [bsX] at c3)
        have hz : (if ns.getD s.1 [] = n then s.2 else s.2.set (delN (ns.take s.1) n).length (ns.getD s.1 [])) = s.2.set (delN (ns.take s.1) n).length (ns.getD s.1 []) := if_neg c3
        have hd := delN_ne hj c3
        have hdl : (delN (ns.take (s.1 + 1)) n).length = (delN (ns.take s.1) n).length + 1 := by rw [hd]; simp
        have hnx := hx1.ne hj c3
        rw [← hz] at hnx
        repeat (refine Ob.mk ?_ ?_; focus (omega))
        refine ⟨(s.1 + 1, if ns.getD s.1 [] = n then s.2 else s.2.set (delN (ns.take s.1) n).length (ns.getD s.1 [])), (by assumption), (by (simp only [SrcE.len, Nat.zero_add, List.length_append, List.length_cons, List.length_nil]; omega)), ?_⟩
        repeat (refine Ob.mk ?_ ?_; (focus (first | (exact stN_set (v := s.2.getD s.1 []) rfl (by omega) (hz.trans (congrArg (List.set s.2 (delN (ns.take s.1) n).length) hg.symm))) | (exact Eq.refl _) | omega | (simp only [SrcE.len, Nat.zero_add, List.length_append, List.length_cons, List.length_nil]; omega))))
        trivial
      · skip
        have c3 := h3
        (simp only [bsX] at c3)
        have hz : (if ns.getD s.1 [] = n then s.2 else s.2.set (delN (ns.take s.1) n).length (ns.getD s.1 [])) = s.2 := if_pos c3
        have hd := delN_eq hj c3
        have hnx := hx1.eq hj c3
        rw [← hz] at hnx
        repeat (refine Ob.mk ?_ ?_; focus (omega))
        refine ⟨(s.1 + 1, if ns.getD s.1 [] = n then s.2 else s.2.set (delN (ns.take s.1) n).length (ns.getD s.1 [])), (by assumption), (by (simp only [SrcE.len, Nat.zero_add, List.length_append, List.length_cons, List.length_nil]; omega)), ?_⟩
        repeat (refine Ob.mk ?_ ?_; (focus (first | (exact Eq.refl _) | omega | (intro hg; ((intro hq; ((simp_all; done))))) | (simp_all; done))))
        trivial
    · skip
      have c2 := h2
      (simp only [bsX] at c2)
      have hlt := hx1.lt
      have hle := hx1.le
      have hfin := hx1.fin (by omega)
      repeat (refine Ob.mk ?_ ?_; (focus (first | omega | (intro hg; ((intro hq; ((simp_all; done))))) | (simp_all; done))))
      trivial
theorem idx_is {ns : List (List Bool)} {n : List Bool} (h : n ∈ ns) : ∃ k, k < ns.length ∧ idxN ns n = (k : Int) ∧ ns.getD k [] = n ∧ ∀ i, i < k → ns.getD i [] ≠ n := by
  have h1 := List.idxOf_lt_length_of_mem h
  refine ⟨ns.idxOf n, h1, by unfold idxN; rw [if_pos h], ?_, fun i hi e => ?_⟩
  · rw [List.getD_eq_getElem?_getD, List.getElem?_eq_getElem h1]; exact List.getElem_idxOf h1
  · have := List.not_of_lt_findIdx (p := (· == n)) (xs := ns) (i := i) hi
    rw [List.getD_eq_getElem?_getD, List.getElem?_eq_getElem (by omega)] at e
    have e' : ns[i] = n := e
    rw [e'] at this
    simp at this
theorem delN_pre {ns : List (List Bool)} {n : List Bool} : ∀ k, k ≤ ns.length → (∀ i, i < k → ns.getD i [] ≠ n) → delN (ns.take k) n = ns.take k
  | 0, _, _ => rfl
  | k + 1, hk, h => by
    rw [delN_ne (by omega) (h k (by omega)), delN_pre k (by omega) fun i hi => h i (by omega), List.take_succ_eq_append_getElem (by omega), List.getD_eq_getElem?_getD, List.getElem?_eq_getElem (by omega)]
    rfl
theorem cf_nDel {ns : List (List Bool)} {n : List Bool} (hl : ns.length ≤ 1000) (hb : ∀ x ∈ ns, x.length ≤ 32) : Cf Tryd.prog 53 [(0, .rz ns.length 2 (fun i j => netC (ns.getD i []) j) 51 0)] [.osl 0 ns.length, .fn 54 [.pp [.u32 (adr n), .i (n.length : Int)] 0]] [(0, .rz (delN ns n).length 2 (fun i j => netC ((delN ns n).getD i []) j) 51 0)] (.osl 0 (delN ns n).length) := by
  by_cases h : n ∈ ns
  · obtain ⟨k, h1, h2, h3, h4⟩ := idx_is h
    have e := delN_pre k (by omega) h4
    have e2 := delN_eq h1 h3
    have e3 : (delN (ns.take (k + 1)) n).length = k := by rw [e2, e, List.length_take]; omega
    refine cf_nDelYO hl hb h2 e3 ⟨by omega, rfl, ?_, rfl, by omega⟩
    rw [e3, e2, e]
  · have e : delN ns n = ns := List.filter_eq_self.2 fun x hx => by simp; exact fun k => h (k ▸ hx)
    rw [e]
    exact cf_nDelNO hl hb (by unfold idxN; rw [if_neg h])
end Go.Proofs.YtfpglljpngiipaaDoor
