/- Tries: the longest net that holds an address, and all entries of a map, plainly. -/
import Derived.Test.YtcdoobkaobiacaaTrieG
namespace Go.Proofs.Ytcdoobkaobiacaa
open Tr
set_option linter.unusedVariables false
set_option linter.unusedSimpArgs false

/-- The owner of the longest net that holds an address, from the root. -/
def findT : Tr → List Bool → List UInt8 → List UInt8
  | .nil, _, acc => acc
  | .node p o l r, q, acc =>
    if p <+: q then
      if p = q then (if o = [] then acc else o)
      else bif bitAt q p.length then findT r q (if o = [] then acc else o) else findT l q (if o = [] then acc else o)
    else acc
theorem find_out {p o l r q acc} (h : ¬ p <+: q) : findT (.node p o l r) q acc = acc := by rw [findT, if_neg h]
theorem find_end {p o l r acc} : findT (.node p o l r) p acc = if o = [] then acc else o := by rw [findT, if_pos (List.prefix_refl p), if_pos rfl]
theorem find_step {p o l r q acc} {b : Bool} (h : p <+: q) (h2 : p ≠ q) (hb : bitAt q p.length = b) : findT (.node p o l r) q acc = bif b then findT r q (if o = [] then acc else o) else findT l q (if o = [] then acc else o) := by
  rw [findT, if_pos h, if_neg h2, hb]
theorem has_ne : ∀ {T : Tr} {m y}, T.has m y → y ≠ []
  | .nil, _, _, h => h.elim
  | .node p o l r, m, y, h => by
    rcases h with ⟨_, e, k⟩ | h | h
    · rw [e]; exact k
    · exact has_ne h
    · exact has_ne h
theorem find_kid {p q : List Bool} {o : List UInt8} {l r c : Tr} {b : Bool} {acc : List UInt8} (h : p <+: q) (hne : p ≠ q) (hb : p ++ [b] <+: q)
    (hc : ∀ m y, (Tr.node p o l r).has m y → (m = p ∧ y = o ∧ o ≠ []) ∨ c.has m y ∨ ¬ m <+: q) (hc2 : ∀ m y, c.has m y → (Tr.node p o l r).has m y) (hu : ∀ m y, c.has m y → p ++ [b] <+: m)
    (ih : (findT c q (if o = [] then acc else o) = (if o = [] then acc else o) ∧ ∀ m y, c.has m y → ¬ m <+: q) ∨ (∃ m, c.has m (findT c q (if o = [] then acc else o)) ∧ m <+: q ∧ ∀ m' y, c.has m' y → m' <+: q → m'.length ≤ m.length)) :
    (findT c q (if o = [] then acc else o) = acc ∧ ∀ m y, (Tr.node p o l r).has m y → ¬ m <+: q) ∨ (∃ m, (Tr.node p o l r).has m (findT c q (if o = [] then acc else o)) ∧ m <+: q ∧ ∀ m' y, (Tr.node p o l r).has m' y → m' <+: q → m'.length ≤ m.length) := by
  rcases ih with ⟨e, k⟩ | ⟨m, k1, k2, k3⟩
  · by_cases ho : o = []
    · left
      rw [e, if_pos ho]
      refine ⟨rfl, fun m y hm hq => ?_⟩
      rcases hc m y hm with ⟨_, _, x⟩ | x | x
      · exact x ho
      · exact k m y x hq
      · exact x hq
    · right
      rw [e, if_neg ho]
      refine ⟨p, .inl ⟨rfl, rfl, ho⟩, h, fun m y hm hq => ?_⟩
      rcases hc m y hm with ⟨x, _⟩ | x | x
      · rw [x]; exact Nat.le_refl _
      · exact absurd hq (k m y x)
      · exact absurd hq x
  · right
    refine ⟨m, hc2 _ _ k1, k2, fun m' y hm hq => ?_⟩
    rcases hc m' y hm with ⟨x, _⟩ | x | x
    · rw [x]; exact (pre_of (hu _ _ k1)).length_le
    · exact k3 m' y x hq
    · exact absurd hq x
theorem find_spec : ∀ {T : Tr} {q : List Bool} {acc : List UInt8}, T.wf → (findT T q acc = acc ∧ ∀ m y, T.has m y → ¬ m <+: q) ∨ (∃ m, T.has m (findT T q acc) ∧ m <+: q ∧ ∀ m' y, T.has m' y → m' <+: q → m'.length ≤ m.length)
  | .nil, q, acc, _ => .inl ⟨rfl, fun m y h => h.elim⟩
  | .node p o l r, q, acc, w => by
    have W := w
    obtain ⟨hp, ul, ur, hx, wl, wr⟩ := w
    by_cases h : p <+: q
    · by_cases hne : p = q
      · subst hne
        rw [find_end]
        have hk : ∀ m y, (Tr.node p o l r).has m y → m <+: p → m = p ∧ y = o ∧ o ≠ [] := fun m y hm hq => by
          rcases hm with x | x | x
          · exact x
          · exact absurd (pre_antisymm hq (pre_of (has_und wl ul x))).symm (pre_ne (has_und wl ul x))
          · exact absurd (pre_antisymm hq (pre_of (has_und wr ur x))).symm (pre_ne (has_und wr ur x))
        by_cases ho : o = []
        · left
          rw [if_pos ho]
          exact ⟨rfl, fun m y hm hq => (hk m y hm hq).2.2 ho⟩
        · right
          rw [if_neg ho]
          exact ⟨p, .inl ⟨rfl, rfl, ho⟩, List.prefix_refl p, fun m y hm hq => by rw [(hk m y hm hq).1]; exact Nat.le_refl _⟩
      · have b := pre_bit h hne
        cases hb : bitAt q p.length <;> rw [hb] at b
        · rw [find_step h hne hb]
          refine find_kid (c := l) h hne b (fun m y hm => ?_) (fun m y hm => .inr (.inl hm)) (fun m y hm => has_und wl ul hm) (find_spec wl)
          rcases hm with x | x | x
          · exact .inl x
          · exact .inr (.inl x)
          · exact .inr (.inr fun hq => by have := pre_both ((has_und wr ur x).trans hq) b; cases this)
        · rw [find_step h hne hb]
          refine find_kid (c := r) h hne b (fun m y hm => ?_) (fun m y hm => .inr (.inr hm)) (fun m y hm => has_und wr ur hm) (find_spec wr)
          rcases hm with x | x | x
          · exact .inl x
          · exact .inr (.inr fun hq => by have := pre_both ((has_und wl ul x).trans hq) b; cases this)
          · exact .inr (.inl x)
    · left
      rw [find_out h]
      exact ⟨rfl, fun m y hm hq => h (List.IsPrefix.trans (has_und W (List.prefix_refl p) hm) hq)⟩
/-- The net of a key. -/
def kp (k : UInt32 × Int) : List Bool := pathN k.1.toNat k.2.toNat
theorem kp_key {p : List Bool} (h : p.length ≤ 32) : kp (pkey p) = p := by
  show pathN (adr p).toNat ((p.length : Int)).toNat = p
  rw [Int.toNat_natCast]
  exact adr_inj (by rw [pathN_len]) (by rw [pathN_len]; exact h) (adr_path (adr p) h (adr_valid h))
def KOk (es : NetMap) : Prop := ∀ e ∈ es, ∃ p : List Bool, p.length ≤ 32 ∧ e.1 = pkey p
def KNd (es : NetMap) : Prop := (es.map (·.1)).Nodup
theorem kOk_put {k : UInt32 × Int} {v : List UInt8} (hk : ∃ p : List Bool, p.length ≤ 32 ∧ k = pkey p) : ∀ {es : NetMap}, KOk es → KOk (mpPut k v es)
  | [], h => by rw [mpPut_nil]; intro e he; rw [List.mem_singleton] at he; rw [he]; exact hk
  | x :: es, h => by
    have ih := kOk_put (v := v) hk (es := es) fun e he => h e (List.mem_cons_of_mem _ he)
    rw [mpPut_cons]
    split
    · intro e he
      rcases List.mem_cons.1 he with rfl | he
      · exact hk
      · exact h e (List.mem_cons_of_mem _ he)
    · intro e he
      rcases List.mem_cons.1 he with rfl | he
      · exact h _ List.mem_cons_self
      · exact ih e he
theorem mem_put {k x : UInt32 × Int} {v : List UInt8} : ∀ {es : NetMap}, x ∈ (mpPut k v es).map (·.1) → x = k ∨ x ∈ es.map (·.1)
  | [], h => by rw [mpPut_nil] at h; simp at h; exact .inl h
  | e :: es, h => by
    rw [mpPut_cons] at h
    split at h
    · rename_i hk
      rw [List.map_cons, List.mem_cons] at h
      rcases h with h | h
      · exact .inl h
      · exact .inr (by rw [List.map_cons, List.mem_cons]; exact .inr h)
    · rw [List.map_cons, List.mem_cons] at h
      rcases h with h | h
      · exact .inr (by rw [List.map_cons, List.mem_cons]; exact .inl h)
      · rcases mem_put h with h | h
        · exact .inl h
        · exact .inr (by rw [List.map_cons, List.mem_cons]; exact .inr h)
theorem kNd_put {k : UInt32 × Int} {v : List UInt8} : ∀ {es : NetMap}, KNd es → KNd (mpPut k v es)
  | [], h => by rw [mpPut_nil]; unfold KNd; simp
  | e :: es, h => by
    unfold KNd at h
    rw [List.map_cons, List.nodup_cons] at h
    rw [mpPut_cons]
    split
    · rename_i hk
      unfold KNd
      rw [List.map_cons, List.nodup_cons]
      exact ⟨by rw [hk]; exact h.1, h.2⟩
    · rename_i hk
      unfold KNd
      rw [List.map_cons, List.nodup_cons]
      refine ⟨fun hm => ?_, kNd_put (es := es) h.2⟩
      rcases mem_put hm with x | x
      · exact hk x.symm
      · exact h.1 x
theorem kOk_L (l : List RawS) : ∀ i, KOk (mpL l i)
  | 0 => fun e he => by cases he
  | i + 1 => kOk_put ⟨rnet (rAt l i), netP_len, rfl⟩ (kOk_L l i)
theorem kNd_L (l : List RawS) : ∀ i, KNd (mpL l i)
  | 0 => List.nodup_nil
  | i + 1 => kNd_put (kNd_L l i)
theorem mpGet_mem {e : (UInt32 × Int) × List UInt8} : ∀ {es : NetMap}, KNd es → e ∈ es → mpGet e.1 es = some e.2
  | x :: es, h, he => by
    unfold KNd at h
    rw [List.map_cons, List.nodup_cons] at h
    rw [mpGet_cons]
    rcases List.mem_cons.1 he with rfl | he
    · rw [if_pos rfl]
    · rw [if_neg (fun q => h.1 (by rw [← q]; exact List.mem_map_of_mem he))]
      exact mpGet_mem (es := es) h.2 he
abbrev eA (es : NetMap) (i : Nat) : (UInt32 × Int) × List UInt8 := es.getD i ((0, 0), [])
theorem eA_mem {es : NetMap} {i : Nat} (h : i < es.length) : eA es i ∈ es := by
  show es.getD i _ ∈ es
  rw [List.getD_eq_getElem?_getD, List.getElem?_eq_getElem h]; exact List.getElem_mem h
theorem eA_key {es : NetMap} (hk : KOk es) {i : Nat} (h : i < es.length) : (kp (eA es i).1).length ≤ 32 ∧ (eA es i).1 = pkey (kp (eA es i).1) := by
  obtain ⟨p, h1, h2⟩ := hk _ (eA_mem h)
  rw [h2, kp_key h1]; exact ⟨h1, rfl⟩
theorem eA_has {T : Tr} {es : NetMap} (R : Rel T es) (hk : KOk es) (hn : KNd es) {i : Nat} (h : i < es.length) : T.has (kp (eA es i).1) (eA es i).2 := by
  obtain ⟨h1, h2⟩ := eA_key hk h
  refine (R.get _ _ h1).2 ?_
  rw [← h2]; exact mpGet_mem hn (eA_mem h)
theorem has_eA {T : Tr} {es : NetMap} (R : Rel T es) {m : List Bool} {y : List UInt8} (h : T.has m y) : ∃ i, i < es.length ∧ eA es i = (pkey m, y) := by
  have k := (R.get m y (has_le R.wf h)).1 h
  unfold mpGet at k
  cases hi : mpIdx (pkey m) es with
  | none => rw [hi] at k; cases k
  | some q =>
    rw [hi] at k; cases k
    have e := mpIdx_at hi
    have hl := (List.getElem?_eq_some_iff.1 e).1
    refine ⟨q.1, hl, ?_⟩
    show es.getD q.1 _ = _
    rw [List.getD_eq_getElem?_getD, e]; rfl
def best (es : NetMap) (q : List Bool) : List Nat → List UInt8 × Int
  | [] => ([], -1)
  | i :: s => bif decide (kp (eA es i).1 <+: q) && decide ((best es q s).2 < (eA es i).1.2) then ((eA es i).2, (eA es i).1.2) else best es q s
theorem best_spec {es : NetMap} (hk : KOk es) (q : List Bool) : ∀ s : List Nat, (∀ i ∈ s, i < es.length) → (best es q s = ([], -1) ∧ ∀ i ∈ s, ¬ kp (eA es i).1 <+: q) ∨ (∃ i ∈ s, kp (eA es i).1 <+: q ∧ best es q s = ((eA es i).2, (eA es i).1.2) ∧ ∀ j ∈ s, kp (eA es j).1 <+: q → (eA es j).1.2 ≤ (eA es i).1.2)
  | [], _ => .inl ⟨rfl, fun i h => by cases h⟩
  | i :: s, hs => by
    have ih := best_spec hk q s fun j hj => hs j (List.mem_cons_of_mem _ hj)
    have hl : 0 ≤ (eA es i).1.2 := by rw [(eA_key hk (hs i List.mem_cons_self)).2]; exact Int.natCast_nonneg _
    unfold best
    by_cases hm : kp (eA es i).1 <+: q
    · rcases ih with ⟨e, k⟩ | ⟨j, hj, k1, k2, k3⟩
      · right
        rw [e, decide_eq_true hm, decide_eq_true (by show (-1 : Int) < _; omega)]
        refine ⟨i, List.mem_cons_self, hm, rfl, fun j hj hq => ?_⟩
        rcases List.mem_cons.1 hj with rfl | hj
        · exact Int.le_refl _
        · exact absurd hq (k j hj)
      · right
        rw [k2, decide_eq_true hm]
        by_cases hlt : (eA es j).1.2 < (eA es i).1.2
        · rw [decide_eq_true hlt]
          refine ⟨i, List.mem_cons_self, hm, rfl, fun j' hj' hq => ?_⟩
          rcases List.mem_cons.1 hj' with rfl | hj'
          · exact Int.le_refl _
          · have := k3 j' hj' hq; omega
        · rw [decide_eq_false hlt]
          refine ⟨j, List.mem_cons_of_mem _ hj, k1, rfl, fun j' hj' hq => ?_⟩
          rcases List.mem_cons.1 hj' with rfl | hj'
          · omega
          · exact k3 j' hj' hq
    · rw [decide_eq_false hm]
      rcases ih with ⟨e, k⟩ | ⟨j, hj, k1, k2, k3⟩
      · left
        refine ⟨e, fun j hj => ?_⟩
        rcases List.mem_cons.1 hj with rfl | hj
        · exact hm
        · exact k j hj
      · right
        refine ⟨j, List.mem_cons_of_mem _ hj, k1, k2, fun j' hj' hq => ?_⟩
        rcases List.mem_cons.1 hj' with rfl | hj'
        · exact absurd hq hm
        · exact k3 j' hj' hq
theorem long_fin {T : Tr} {es : NetMap} {q : List Bool} {s : List Nat} (R : Rel T es) (hk : KOk es) (hn : KNd es) (hall : ∀ i, i < es.length → i ∈ s) (hs : ∀ i ∈ s, i < es.length) :
    (findT T q [] = (best es q s).1) ∧ (0 ≤ (best es q s).2 ↔ findT T q [] ≠ []) := by
  rcases best_spec hk q s hs with ⟨e, k⟩ | ⟨i, hi, k1, k2, k3⟩
  · rcases find_spec (T := T) (q := q) (acc := []) R.wf with ⟨f, g⟩ | ⟨m, g1, g2, g3⟩
    · rw [e, f]; exact ⟨rfl, fun h => absurd h (by decide), fun h => absurd rfl h⟩
    · obtain ⟨j, hj, ej⟩ := has_eA R g1
      refine absurd ?_ (k j (hall j hj))
      rw [ej, kp_key (has_le R.wf g1)]; exact g2
  · have hh := eA_has R hk hn (hs i hi)
    have hl := eA_key hk (hs i hi)
    rcases find_spec (T := T) (q := q) (acc := []) R.wf with ⟨f, g⟩ | ⟨m, g1, g2, g3⟩
    · exact absurd k1 (g _ _ hh)
    · obtain ⟨j, hj, ej⟩ := has_eA R g1
      have a := g3 _ _ hh k1
      have b := k3 j (hall j hj) (by rw [ej, kp_key (has_le R.wf g1)]; exact g2)
      rw [ej, hl.2] at b
      have b' : m.length ≤ (kp (eA es i).1).length := by have : (m.length : Int) ≤ ((kp (eA es i).1).length : Int) := b; omega
      have em : m = kp (eA es i).1 := pre_antisymm (List.prefix_of_prefix_length_le g2 k1 b') (List.prefix_of_prefix_length_le k1 g2 a)
      rw [em] at g1
      have ey := has_fun R.wf g1 hh
      rw [k2, ey]
      refine ⟨rfl, fun _ => has_ne hh, fun _ => ?_⟩
      show 0 ≤ (eA es i).1.2
      rw [hl.2]; exact Int.natCast_nonneg _
theorem nodup_le : ∀ {n : Nat} {s : List Nat}, s.Nodup → (∀ i ∈ s, i < n) → s.length ≤ n
  | 0, [], _, _ => Nat.le_refl _
  | 0, i :: s, _, h => absurd (h i List.mem_cons_self) (Nat.not_lt_zero _)
  | n + 1, s, hn, h => by
    by_cases hm : n ∈ s
    · have a := nodup_le (n := n) (s := s.erase n) (hn.erase n) fun i hi => by
        have := (List.Nodup.mem_erase_iff hn).1 hi
        have := h i this.2
        omega
      rw [List.length_erase_of_mem hm] at a
      omega
    · have a := nodup_le (n := n) (s := s) hn fun i hi => by
        have := h i hi
        have : i ≠ n := fun e => hm (e ▸ hi)
        omega
      omega
/-- The nets of a list that are owned. -/
def allK (L : List Nd) : Nat → List Nd
  | 0 => []
  | i + 1 => bif !decide ((nAt L i).o = []) then allK L i ++ [⟨(nAt L i).p, (nAt L i).o, 1⟩] else allK L i
theorem allK_len (L : List Nd) : ∀ i, (allK L i).length ≤ i
  | 0 => Nat.le_refl _
  | i + 1 => by
    have := allK_len L i
    unfold allK
    cases decide ((nAt L i).o = [])
    · show (allK L i ++ [_]).length ≤ _; rw [List.length_append]; simp; omega
    · show (allK L i).length ≤ _; omega
theorem allK_cnt (L : List Nd) : ∀ i, i ≤ L.length → (allK L i).length = ((L.take i).filter fun n => !decide (n.o = [])).length
  | 0, _ => rfl
  | i + 1, h => by
    have ih := allK_cnt L i (by omega)
    have e : nAt L i = L[i] := by show L.getD i default = L[i]; rw [List.getD_eq_getElem?_getD, List.getElem?_eq_getElem (by omega)]; rfl
    have e2 : L.take (i + 1) = L.take i ++ [L[i]] := by rw [List.take_add_one, List.getElem?_eq_getElem (by omega)]; rfl
    unfold allK
    rw [e2, List.filter_append, List.length_append, ← ih, e]
    by_cases hq : L[i].o = []
    · rw [decide_eq_true hq, List.filter_cons_of_neg (by simp [hq])]; rfl
    · rw [decide_eq_false hq, List.filter_cons_of_pos (by simp [hq])]; simp
theorem ownN_cnt : ∀ T : Tr, ownN T = (T.flat.filter fun n => !decide (n.o = [])).length
  | .nil => rfl
  | .node p o l r => by
    rw [ownN, Tr.flat, ownN_cnt l, ownN_cnt r]
    by_cases h : o = []
    · rw [if_pos h, List.filter_cons_of_neg (by simp [h]), List.filter_append, List.length_append]; omega
    · rw [if_neg h, List.filter_cons_of_pos (by simp [h]), List.filter_append, List.length_cons, List.length_append]; omega
theorem allK_all (T : Tr) : (allK T.flat T.flat.length).length = ownN T := by
  rw [allK_cnt _ _ (Nat.le_refl _), List.take_length, ownN_cnt]
/-- A net put in and dropped again. -/
theorem back_wf {T : Tr} (w : T.wf) {n : List Bool} {o : List UInt8} (hn : n.length ≤ 32) (ho : o ≠ []) : (stripT (fun p _ => decide (p = n)) (putT T n o)).wf := strip_wf _ (putT_wf w hn ho)
theorem back_out {T : Tr} {n : List Bool} : ∀ y, ¬ (stripT (fun p _ => decide (p = n)) T).has n y := fun y h => by
  have := ((strip_has _).1 h).2
  simp at this
theorem back_same {T : Tr} (w : T.wf) {n : List Bool} {o : List UInt8} (hn : n.length ≤ 32) (ho : o ≠ []) (h : ∀ y, ¬ T.has n y) : stripT (fun p _ => decide (p = n)) (putT T n o) = T := by
  refine wf_unique (back_wf w hn ho) w fun m y => ?_
  rw [strip_has, putT_has w ho]
  constructor
  · rintro ⟨⟨a, _⟩ | ⟨_, k⟩, q⟩
    · rw [a] at q; simp at q
    · exact k
  · intro k
    have : m ≠ n := fun e => h y (e ▸ k)
    exact ⟨.inr ⟨this, k⟩, by simpa using this⟩
end Go.Proofs.Ytcdoobkaobiacaa
