/- Configurations of raw things, plainly: nets put in order, peers, what holds of them. It names no function of the program. -/
import Derived.Test.YtfpglljpngiipaaDoorCEnds
import Derived.Test.YtfpglljpngiipaaDoorCNet
import Derived.Test.YtfpglljpngiipaaDoorClLine
namespace Go.Proofs.YtfpglljpngiipaaDoor
open Go.Lib
set_option linter.unusedVariables false
set_option linter.unusedSimpArgs false

/-! ### Nets in order -/
def ltB (p q : List Bool) : Bool := decide (adrN p < adrN q) || (decide (adrN p = adrN q) && decide (p.length < q.length))
theorem ltB_iff {p q : List Bool} : ltB p q = true ↔ adrN p < adrN q ∨ adrN p = adrN q ∧ p.length < q.length := by
  unfold ltB; simp
theorem ltB_trans {p q r : List Bool} (h : ltB p q = true) (k : ltB q r = true) : ltB p r = true := by
  have a := ltB_iff.1 h; have b := ltB_iff.1 k
  exact ltB_iff.2 (by omega)
theorem ltB_tot {p q : List Bool} (hp : p.length ≤ 32) (hn : p ≠ q) (h : ltB p q = false) : ltB q p = true := by
  refine ltB_iff.2 ?_
  have a : ¬ (adrN p < adrN q ∨ adrN p = adrN q ∧ p.length < q.length) := fun k => by rw [ltB_iff.2 k] at h; cases h
  by_cases e : adrN p = adrN q
  · by_cases l : p.length = q.length
    · exact absurd (adrN_inj l hp e) hn
    · omega
  · omega
def ordN (p q : List Bool) : Int := if ltB p q = true then -1 else if p = q then 0 else 1
/-- One more in a row that falls. -/
def insR (x : List Bool) : List (List Bool) → List (List Bool)
  | [] => [x]
  | y :: r => if ltB x y = true then y :: insR x r else x :: y :: r
def sortR (l : List (List Bool)) : List (List Bool) := l.foldl (fun r x => insR x r) []
def sortN (l : List (List Bool)) : List (List Bool) := (sortR l).reverse
theorem insR_perm (x : List Bool) : ∀ r, (insR x r).Perm (x :: r)
  | [] => List.Perm.refl _
  | y :: r => by
    unfold insR
    split
    · exact ((insR_perm x r).cons y).trans (List.Perm.swap x y r)
    · exact List.Perm.refl _
theorem foldR_perm : ∀ (l r : List (List Bool)), (l.foldl (fun r x => insR x r) r).Perm (r ++ l)
  | [], r => by rw [List.append_nil]; exact List.Perm.refl _
  | x :: l, r => by
    refine (foldR_perm l (insR x r)).trans ?_
    refine ((insR_perm x r).append_right l).trans ?_
    exact List.perm_middle.symm
theorem sortN_perm (l : List (List Bool)) : (sortN l).Perm l := (List.reverse_perm _).trans (foldR_perm l [])
theorem sortN_len (l : List (List Bool)) : (sortN l).length = l.length := (sortN_perm l).length_eq
def fallR (r : List (List Bool)) : Prop := r.Pairwise fun a b => ltB b a = true
theorem insR_fall (x : List Bool) : ∀ r : List (List Bool), fallR r → x.length ≤ 32 → x ∉ r → fallR (insR x r)
  | [], _, _, _ => List.pairwise_singleton _ _
  | y :: r, h, hl, hn => by
    obtain ⟨h1, h2⟩ := List.pairwise_cons.1 h
    rw [List.mem_cons, not_or] at hn
    unfold insR
    split
    · next e =>
      refine List.pairwise_cons.2 ⟨fun z hz => ?_, insR_fall x r h2 hl hn.2⟩
      rcases List.mem_cons.1 ((insR_perm x r).mem_iff.1 hz) with k | k
      · rw [k]; exact e
      · exact h1 z k
    · next e =>
      have k : ltB y x = true := ltB_tot hl hn.1 (by cases q : ltB x y; rfl; exact absurd q e)
      refine List.pairwise_cons.2 ⟨fun z hz => ?_, h⟩
      rcases List.mem_cons.1 hz with rfl | hz
      · exact k
      · exact ltB_trans (h1 z hz) k
theorem foldR_fall : ∀ (l r : List (List Bool)), fallR r → (∀ x ∈ l, x.length ≤ 32) → (r ++ l).Nodup → fallR (l.foldl (fun r x => insR x r) r)
  | [], r, h, _, _ => h
  | x :: l, r, h, hl, hn => by
    have hn2 : (insR x r ++ l).Nodup := ((((insR_perm x r).append_right l).trans List.perm_middle.symm).nodup_iff).2 hn
    have hx : x ∉ r := fun k => (List.nodup_append.1 hn).2.2 x k x (by simp) rfl
    exact foldR_fall l (insR x r) (insR_fall x r h (hl x (by simp)) hx) (fun y hy => hl y (by simp [hy])) hn2
def riseN (l : List (List Bool)) : Prop := l.Pairwise fun a b => ltB a b = true
theorem sortN_rise {l : List (List Bool)} (hl : ∀ x ∈ l, x.length ≤ 32) (hn : l.Nodup) : riseN (sortN l) :=
  List.pairwise_reverse.2 (foldR_fall l [] List.Pairwise.nil hl hn)
/-! ### The same, in place -/
def swp (l : List (List Bool)) (j : Nat) : List (List Bool) := (l.set (j + 1) (l.getD j [])).set j (l.getD (j + 1) [])
def insJ : Nat → List (List Bool) → List (List Bool)
  | 0, l => l
  | j + 1, l => if ltB (l.getD (j + 1) []) (l.getD j []) = true then insJ j (swp l j) else l
def insN (l : List (List Bool)) : Nat → List (List Bool)
  | 0 => l
  | k + 1 => insJ (k + 1) (insN l k)
theorem swp_len (l : List (List Bool)) (j : Nat) : (swp l j).length = l.length := by unfold swp; simp
theorem insJ_len : ∀ (j : Nat) (l : List (List Bool)), (insJ j l).length = l.length
  | 0, l => rfl
  | j + 1, l => by
    unfold insJ
    split
    · rw [insJ_len j, swp_len]
    · rfl
theorem insN_len (l : List (List Bool)) : ∀ k, (insN l k).length = l.length
  | 0 => rfl
  | k + 1 => by unfold insN; rw [insJ_len, insN_len l k]
theorem insJ_is (x : List Bool) (post : List (List Bool)) : ∀ (rp post : List (List Bool)), insJ rp.length (rp.reverse ++ x :: post) = (insR x rp).reverse ++ post
  | [], post => rfl
  | y :: rp, post => by
    have e : (y :: rp).reverse ++ x :: post = rp.reverse ++ y :: x :: post := by simp
    rw [e]
    show insJ (rp.length + 1) _ = _
    unfold insJ insR
    have g1 : (rp.reverse ++ y :: x :: post).getD (rp.length + 1) [] = x := by
      rw [List.getD_eq_getElem?_getD, List.getElem?_append_right (by simp)]; simp
    have g2 : (rp.reverse ++ y :: x :: post).getD rp.length [] = y := by
      rw [List.getD_eq_getElem?_getD, List.getElem?_append_right (by simp)]; simp
    rw [g1, g2]
    split
    · have e2 : swp (rp.reverse ++ y :: x :: post) rp.length = rp.reverse ++ x :: (y :: post) := by
        unfold swp
        rw [g1, g2, List.set_append_right _ _ (by simp), List.set_append_right _ _ (by simp)]
        simp
      rw [e2, insJ_is x post rp (y :: post)]
      simp
    · simp
theorem insN_is (l : List (List Bool)) : ∀ k, k < l.length → insN l k = (sortR (l.take (k + 1))).reverse ++ l.drop (k + 1)
  | 0, h => by
    cases l with
    | nil => cases h
    | cons x l => rfl
  | k + 1, h => by
    unfold insN
    rw [insN_is l k (by omega), List.drop_eq_getElem_cons h]
    have hl : (sortR (l.take (k + 1))).length = k + 1 := by
      have := (sortN_len (l.take (k + 1)))
      unfold sortN at this
      rw [List.length_reverse] at this
      rw [this, List.length_take]; omega
    have := insJ_is (l[k + 1]) [] (sortR (l.take (k + 1))) (l.drop (k + 1 + 1))
    rw [hl] at this
    rw [this, List.take_succ_eq_append_getElem (i := k + 1) h]
    unfold sortR
    rw [List.foldl_append]; rfl
theorem insN_end {l : List (List Bool)} {i : Nat} (h : l.length ≤ i) (hi : 1 ≤ i) (k : i = 1 ∨ i ≤ l.length) : insN l (i - 1) = sortN l := by
  cases l with
  | nil => 
    rcases k with k | k
    · subst k; rfl
    · simp at k; omega
  | cons x l =>
    have e : i - 1 < (x :: l).length := by rcases k with k | k <;> simp at h k ⊢ <;> omega
    have e2 : i - 1 + 1 = (x :: l).length := by simp at h e ⊢; omega
    rw [insN_is _ _ e, e2, List.take_length, List.drop_length, List.append_nil]; rfl

/-! ### Peers -/
structure PeerS where
  k : List UInt8
  s : List UInt8
  e : List UInt8
  a : Int
  ns : List (List Bool)
  deriving Inhabited
structure ConfS where
  k : List UInt8
  port : Int
  ps : List PeerS
def peer0 : PeerS := ⟨[], [], [], 0, []⟩
def netC (p : List Bool) : Nat → EV
  | 0 => .u32 (adr p)
  | _ => .i (p.length : Int)
abbrev netsE (ns : List (List Bool)) : EV := .lz ns.length 2 (fun i j => netC (ns.getD i []) j)
def peerC (p : PeerS) : Nat → EV
  | 0 => .s p.k
  | 1 => .s p.s
  | 2 => .s p.e
  | 3 => .i p.a
  | _ => netsE p.ns
abbrev peersE (ps : List PeerS) : EV := .lz ps.length 5 (fun i j => peerC (ps.getD i peer0) j)
abbrev confE (c : ConfS) : EV := .agg [.s c.k, .i c.port, peersE c.ps]
abbrev peerE (p : PeerS) : EV := .agg [.s p.k, .s p.s, .s p.e, .i p.a, netsE p.ns]
/-- May a peer be, by itself? -/
structure PeerOk (p : PeerS) : Prop where
  k : hexC p.k = 0
  s : p.s = [] ∨ (p.s ≠ zs64 ∧ hexC p.s = 0)
  e : p.e = [] ∨ endE p.e = 0
  a : 0 ≤ p.a ∧ p.a ≤ 65535
  nl : p.ns.length ≤ 8
  nb : ∀ n ∈ p.ns, n.length ≤ 32
  ns : riseN p.ns
def keyLt (p q : PeerS) : Prop := Op.bytesLess q.k p.k = false ∧ q.k ≠ p.k
structure ConfOk (c : ConfS) : Prop where
  k : c.k = [] ∨ hexC c.k = 0
  port : 0 ≤ c.port ∧ c.port ≤ 65535
  pl : c.ps.length ≤ 6
  ps : ∀ p ∈ c.ps, PeerOk p ∧ p.k ≠ c.k
  inc : c.ps.Pairwise keyLt
  nd : (c.ps.flatMap (·.ns)).Nodup

/-! ### Of raw things -/
def wr64 (n : Int) : Int := IntKind.i64.wrap n
def nsK (r : RawS) (k : Nat) : List Bool := netP r.k (wr64 (r.a + 5 * (k : Int))) (wr64 (r.b + (k : Int)))
def gath (r : RawS) (met : List (List Bool)) : Nat → List (List Bool)
  | 0 => []
  | k + 1 => if nsK r k ∈ met ++ gath r met k then gath r met k else gath r met k ++ [nsK r k]
theorem gath_len (r : RawS) (met : List (List Bool)) : ∀ k, (gath r met k).length ≤ k
  | 0 => Nat.le_refl _
  | k + 1 => by
    have := gath_len r met k
    unfold gath
    split
    · omega
    · rw [List.length_append]; simp; omega
theorem gath_nd (r : RawS) (met : List (List Bool)) (h : met.Nodup) : ∀ k, (met ++ gath r met k).Nodup
  | 0 => by unfold gath; rw [List.append_nil]; exact h
  | k + 1 => by
    have ih := gath_nd r met h k
    unfold gath
    split
    · exact ih
    · next e =>
      rw [← List.append_assoc]
      refine List.nodup_append.2 ⟨ih, List.pairwise_singleton _ _, fun a ha b hb => ?_⟩
      rw [List.mem_singleton] at hb
      subst hb
      exact fun k => e (by rw [← k]; exact ha)
theorem gath_32 (r : RawS) (met : List (List Bool)) : ∀ k, ∀ n ∈ gath r met k, n.length ≤ 32
  | 0, n, h => by cases h
  | k + 1, n, h => by
    unfold gath at h
    split at h
    · exact gath_32 r met k n h
    · rcases List.mem_append.1 h with h | h
      · exact gath_32 r met k n h
      · rw [List.mem_singleton] at h; rw [h]; exact netP_len
def cntK (r : RawS) : Nat := (pk r.k 4).toNat
def peerR (r : RawS) (i : Nat) (ns : List (List Bool)) : PeerS :=
  ⟨keyN i, if pk r.k 3 = 0 then keyN 7 else [], endL.getD (pk r.a 5).toNat [], pk r.b 100, sortN ns⟩
def delN (met : List (List Bool)) (n : List Bool) : List (List Bool) := met.filter fun m => !decide (m = n)
def confSt (l : List RawS) : Nat → List (List Bool) × List PeerS
  | 0 => ([], [])
  | i + 1 => if 0 < pk (rA l (i + 1)).k 5 then ((confSt l i).1 ++ gath (rA l (i + 1)) (confSt l i).1 (cntK (rA l (i + 1))), (confSt l i).2 ++ [peerR (rA l (i + 1)) (i + 1) (gath (rA l (i + 1)) (confSt l i).1 (cntK (rA l (i + 1))))])
    else ((sortN (gath (rA l (i + 1)) (confSt l i).1 (cntK (rA l (i + 1))))).foldl delN ((confSt l i).1 ++ gath (rA l (i + 1)) (confSt l i).1 (cntK (rA l (i + 1)))), (confSt l i).2)
def confR (l : List RawS) : ConfS := ⟨keyN 0, if l.length = 0 then 0 else pk (rA l 0).a 65536, (confSt l (min (l.length - 1) 6)).2⟩
theorem delF_mem : ∀ (ns met : List (List Bool)) (x : List Bool), x ∈ ns.foldl delN met ↔ x ∈ met ∧ x ∉ ns
  | [], met, x => by simp
  | n :: ns, met, x => by
    show x ∈ ns.foldl delN (delN met n) ↔ _
    rw [delF_mem ns (delN met n) x]
    unfold delN
    simp only [List.mem_filter, List.mem_cons, not_or, Bool.not_eq_true', decide_eq_false_iff_not]
    exact ⟨fun ⟨⟨a, b⟩, c⟩ => ⟨a, b, c⟩, fun ⟨a, b, c⟩ => ⟨⟨a, b⟩, c⟩⟩
theorem delF_nd : ∀ (ns met : List (List Bool)), met.Nodup → (ns.foldl delN met).Nodup
  | [], met, h => h
  | n :: ns, met, h => delF_nd ns _ (h.filter _)
theorem delF_len : ∀ (ns met : List (List Bool)), (ns.foldl delN met).length ≤ met.length
  | [], met => Nat.le_refl _
  | n :: ns, met => Nat.le_trans (delF_len ns _) (List.length_filter_le _ _)
theorem delF_32 (ns met : List (List Bool)) (h : ∀ n ∈ met, n.length ≤ 32) : ∀ n ∈ ns.foldl delN met, n.length ≤ 32 := fun n hn => h n ((delF_mem ns met n).1 hn).1
theorem key_lt : ∀ i, i < 8 → ∀ j, j < 8 → i < j → Op.bytesLess (keyN j) (keyN i) = false ∧ keyN j ≠ keyN i := by
  unfold keyN
  decide +kernel
theorem peerR_ok {r : RawS} {i : Nat} {ns : List (List Bool)} (hi : i < 8) (h3 : ns.length ≤ 8) (hn : ns.Nodup) (h32 : ∀ n ∈ ns, n.length ≤ 32) : PeerOk (peerR r i ns) := by
  refine ⟨keyN_ok i hi, ?_, ?_, ?_, ?_, fun n h => h32 n ((sortN_perm ns).mem_iff.1 h), sortN_rise h32 hn⟩
  · show (if pk r.k 3 = 0 then keyN 7 else []) = [] ∨ _
    by_cases h : pk r.k 3 = 0
    · right
      show (if pk r.k 3 = 0 then keyN 7 else []) ≠ zs64 ∧ hexC (if pk r.k 3 = 0 then keyN 7 else []) = 0
      rw [if_pos h]; exact ⟨key_zs 7 (by decide), keyN_ok 7 (by decide)⟩
    · left; rw [if_neg h]
  · have h1 := pk_ge r.a (m := 5) (by decide); have h2 := pk_lt r.a (m := 5) (by decide)
    show endL.getD (pk r.a 5).toNat [] = [] ∨ endE (endL.getD (pk r.a 5).toNat []) = 0
    by_cases h : (pk r.a 5).toNat = 0
    · left; rw [h]; rfl
    · right; exact end_ok ⟨(pk r.a 5).toNat, by omega⟩ h
  · have h1 := pk_ge r.b (m := 100) (by decide); have h2 := pk_lt r.b (m := 100) (by decide)
    exact ⟨h1, by show pk r.b 100 ≤ 65535; omega⟩
  · show (sortN ns).length ≤ 8
    rw [sortN_len]; exact h3
structure StOk (s : List (List Bool) × List PeerS) (i : Nat) : Prop where
  nd : s.1.Nodup
  len : s.1.length ≤ 3 * i
  b32 : ∀ n ∈ s.1, n.length ≤ 32
  pl : s.2.length ≤ i
  ps : ∀ p ∈ s.2, PeerOk p ∧ ∃ j, 1 ≤ j ∧ j ≤ i ∧ p.k = keyN j
  inc : s.2.Pairwise keyLt
  fl : (s.2.flatMap (·.ns)).Nodup
  sub : ∀ n ∈ s.2.flatMap (·.ns), n ∈ s.1
theorem confSt_ok (l : List RawS) : ∀ i, i ≤ 6 → StOk (confSt l i) i
  | 0, _ => ⟨List.Pairwise.nil, Nat.le_refl _, fun n h => (by cases h), Nat.le_refl _, fun n h => (by cases h), List.Pairwise.nil, List.Pairwise.nil, fun n h => (by cases h)⟩
  | i + 1, hi => by
    have ih := confSt_ok l i (by omega)
    have c3 : cntK (rA l (i + 1)) ≤ 3 := by
      have h2 := pk_lt (rA l (i + 1)).k (m := 4) (by decide)
      unfold cntK; omega
    obtain ⟨ns, hns⟩ : ∃ ns, ns = gath (rA l (i + 1)) (confSt l i).1 (cntK (rA l (i + 1))) := ⟨_, rfl⟩
    have nd := gath_nd (rA l (i + 1)) (confSt l i).1 ih.nd (cntK (rA l (i + 1)))
    have nl := gath_len (rA l (i + 1)) (confSt l i).1 (cntK (rA l (i + 1)))
    have n32 := gath_32 (rA l (i + 1)) (confSt l i).1 (cntK (rA l (i + 1)))
    have hlen := ih.len
    have hpl := ih.pl
    unfold confSt
    rw [← hns] at nd nl n32 ⊢
    obtain ⟨d1, d2, d3⟩ := List.nodup_append.1 nd
    have b32 : ∀ n ∈ (confSt l i).1 ++ ns, n.length ≤ 32 := fun n h => (List.mem_append.1 h).elim (ih.b32 n) (n32 n)
    split
    · refine ⟨nd, by rw [List.length_append]; omega, b32, by rw [List.length_append]; simp; omega, fun p h => ?_, List.pairwise_append.2 ⟨ih.inc, List.pairwise_singleton _ _, fun p hp q hq => ?_⟩, ?_, fun n hn => ?_⟩
      · rcases List.mem_append.1 h with h | h
        · obtain ⟨k1, j, j1, j2, j3⟩ := ih.ps p h
          exact ⟨k1, j, j1, by omega, j3⟩
        · rw [List.mem_singleton] at h
          subst h
          exact ⟨peerR_ok (by omega) (by omega) d2 n32, i + 1, by omega, by omega, rfl⟩
      · rw [List.mem_singleton] at hq
        subst hq
        obtain ⟨_, j, j1, j2, j3⟩ := ih.ps p hp
        have := key_lt j (by omega) (i + 1) (by omega) (by omega)
        unfold keyLt
        rw [j3]
        exact this
      · rw [List.flatMap_append]
        have e : [peerR (rA l (i + 1)) (i + 1) ns].flatMap (·.ns) = sortN ns := by simp [peerR]
        rw [e]
        refine List.nodup_append.2 ⟨ih.fl, (sortN_perm ns).nodup_iff.2 d2, fun a ha b hb k => ?_⟩
        exact d3 a (ih.sub a ha) b ((sortN_perm ns).mem_iff.1 hb) k
      · rw [List.flatMap_append] at hn
        have e : [peerR (rA l (i + 1)) (i + 1) ns].flatMap (·.ns) = sortN ns := by simp [peerR]
        rw [e] at hn
        rcases List.mem_append.1 hn with h | h
        · exact List.mem_append_left _ (ih.sub n h)
        · exact List.mem_append_right _ ((sortN_perm ns).mem_iff.1 h)
    · refine ⟨delF_nd _ _ nd, ?_, delF_32 _ _ b32, by show (confSt l i).2.length ≤ _; omega, fun p h => ?_, ih.inc, ih.fl, fun n hn => ?_⟩
      · have := delF_len (sortN ns) ((confSt l i).1 ++ ns)
        rw [List.length_append] at this
        show ((sortN ns).foldl delN ((confSt l i).1 ++ ns)).length ≤ _
        omega
      · obtain ⟨k1, j, j1, j2, j3⟩ := ih.ps p h
        exact ⟨k1, j, j1, by omega, j3⟩
      · refine (delF_mem _ _ n).2 ⟨List.mem_append_left _ (ih.sub n hn), fun k => ?_⟩
        exact d3 n (ih.sub n hn) n ((sortN_perm ns).mem_iff.1 k) rfl
theorem confR_ok (l : List RawS) : ConfOk (confR l) := by
  have h := confSt_ok l (min (l.length - 1) 6) (by omega)
  have hpl := h.pl
  refine ⟨.inr (keyN_ok 0 (by decide)), ?_, by show (confSt l (min (l.length - 1) 6)).2.length ≤ 6; omega, fun p hp => ?_, h.inc, h.fl⟩
  · show 0 ≤ (if l.length = 0 then 0 else pk (rA l 0).a 65536) ∧ (if l.length = 0 then 0 else pk (rA l 0).a 65536) ≤ 65535
    split
    · decide
    · have h1 := pk_ge (rA l 0).a (m := 65536) (by decide); have h2 := pk_lt (rA l 0).a (m := 65536) (by decide)
      omega
  · obtain ⟨k1, j, j1, j2, j3⟩ := h.ps p hp
    refine ⟨k1, ?_⟩
    rw [j3]
    exact (key_lt 0 (by decide) j (by omega) (by omega)).2
end Go.Proofs.YtfpglljpngiipaaDoor
