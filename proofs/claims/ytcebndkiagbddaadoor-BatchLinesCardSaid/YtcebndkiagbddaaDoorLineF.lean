/- Lines of texts, plainly. It names no function of the program. -/
import Derived.Lib.SplitLaws
import Derived.Lib.IndexBytes
import Derived.Lib.Join
namespace Go.Proofs.YtcebndkiagbddaaDoor
set_option linter.unusedVariables false
set_option linter.unusedSimpArgs false

/-- A text cut at a byte, wherever it stands. -/
def spl (c : UInt8) : List UInt8 → List (List UInt8)
  | [] => [[]]
  | b :: l => if b = c then [] :: spl c l else match spl c l with
    | [] => [[b]]
    | x :: xs => (b :: x) :: xs
theorem spl_ne (c : UInt8) : ∀ l, ∃ x xs, spl c l = x :: xs
  | [] => ⟨[], [], rfl⟩
  | b :: l => by
    unfold spl
    split
    · exact ⟨_, _, rfl⟩
    · split
      · exact ⟨_, _, rfl⟩
      · exact ⟨_, _, rfl⟩
theorem spl_eq {c : UInt8} (l : List UInt8) : spl c (c :: l) = [] :: spl c l := by rw [spl, if_pos rfl]
theorem spl_cons {b c : UInt8} (h : b ≠ c) {l x xs} (e : spl c l = x :: xs) : spl c (b :: l) = (b :: x) :: xs := by rw [spl, if_neg h, e]
theorem spl_len (c : UInt8) : ∀ l, (spl c l).length = l.count c + 1
  | [] => rfl
  | b :: l => by
    by_cases h : b = c
    · subst h; rw [spl_eq, List.length_cons, spl_len b l, List.count_cons_self]
    · obtain ⟨x, xs, e⟩ := spl_ne c l
      have := spl_len c l
      rw [spl_cons h e, List.length_cons, List.count_cons_of_ne (by simpa using h)]
      rw [e, List.length_cons] at this; exact this
theorem index_eq1 (c : UInt8) (l : List UInt8) : Lib.index (c :: l) [c] = ((0 : Nat) : Int) := by rw [Lib.index]; simp [List.isPrefixOf]
theorem index_ne1 {b c : UInt8} (h : b ≠ c) (l : List UInt8) : Lib.index (b :: l) [c] = if Lib.index l [c] == -1 then -1 else Lib.index l [c] + 1 := by
  have hp : ([c] : List UInt8).isPrefixOf (b :: l) = false := by simp [List.isPrefixOf, Ne.symm h]
  rw [Lib.index, hp]; simp
theorem splitK_one (c : UInt8) : ∀ l : List UInt8, Lib.splitK [c] 0 (l.count c) l = spl c l
  | [] => rfl
  | b :: l => by
    have ih := splitK_one c l
    by_cases h : b = c
    · subst h
      rw [List.count_cons_self, spl_eq, Lib.splitK, index_eq1, ← ih]
      simp
    · obtain ⟨x, xs, e⟩ := spl_ne c l
      rw [spl_cons h e, List.count_cons_of_ne (by simpa using h)]
      rw [e] at ih
      cases hk : l.count c with
      | zero =>
        rw [hk, Lib.splitK] at ih
        cases ih; rfl
      | succ k =>
        rw [hk, Lib.splitK] at ih
        have hm : ¬ Lib.index l [c] = -1 := fun q => by
          have := Lib.count_miss q
          rw [Lib.count_one] at this; omega
        have hge := Lib.index_ge l [c]
        rw [if_neg (fun q => hm (beq_iff_eq.1 q))] at ih
        obtain ⟨j, hj⟩ : ∃ j : Nat, Lib.index l [c] = j := ⟨(Lib.index l [c]).toNat, by omega⟩
        have e1 : Lib.index (b :: l) [c] = ((j + 1 : Nat) : Int) := by rw [index_ne1 h, if_neg (fun q => hm (beq_iff_eq.1 q)), hj]; omega
        rw [Lib.splitK, e1, if_neg (by simp; omega)]
        rw [hj] at ih
        simp only [Int.toNat_natCast, Nat.add_zero, List.length_singleton] at ih ⊢
        rw [List.take_succ_cons, List.drop_succ_cons]
        cases ih; rfl
theorem splitB_one (c : UInt8) (s : ByteArray) : (Lib.splitB ⟨#[c]⟩ 0 (Lib.countB s ⟨#[c]⟩) s).map (·.data.toList) = spl c s.data.toList := by
  rw [Lib.splitB_data]
  show Lib.splitK [c] 0 (Lib.count s.data.toList [c]) s.data.toList = _
  rw [Lib.count_one, splitK_one]
theorem join_cons2 (x y : List UInt8) (r : List (List UInt8)) (sep : List UInt8) : Lib.join (x :: y :: r) sep = x ++ sep ++ Lib.join (y :: r) sep := by
  rw [Lib.join_cons, Lib.join_cons]
  simp [Lib.joinTail, List.append_assoc]
theorem join_spl (c : UInt8) : ∀ l, Lib.join (spl c l) [c] = l
  | [] => Lib.join_one _ _
  | b :: l => by
    have ih := join_spl c l
    obtain ⟨x, xs, e⟩ := spl_ne c l
    by_cases h : b = c
    · subst h
      rw [spl_eq, e, join_cons2, ← e, ih]; rfl
    · rw [spl_cons h e]
      rw [e, Lib.join_cons] at ih
      rw [Lib.join_cons, List.cons_append, ih]
theorem spl_app {c : UInt8} : ∀ {x : List UInt8} (t : List UInt8), c ∉ x → spl c (x ++ c :: t) = x :: spl c t
  | [], t, _ => spl_eq t
  | b :: x, t, h => by
    rw [List.mem_cons, not_or] at h
    exact spl_cons (fun e => h.1 e.symm) (spl_app t h.2)
theorem spl_none {c : UInt8} : ∀ {x : List UInt8}, c ∉ x → spl c x = [x]
  | [], _ => rfl
  | b :: x, h => by
    rw [List.mem_cons, not_or] at h
    exact spl_cons (fun e => h.1 e.symm) (spl_none h.2)
theorem spl_join {c : UInt8} : ∀ {L : List (List UInt8)}, L ≠ [] → (∀ x ∈ L, c ∉ x) → spl c (Lib.join L [c]) = L
  | [], h, _ => absurd rfl h
  | [x], _, h => by rw [Lib.join_one]; exact spl_none (h x (by simp))
  | x :: y :: r, _, h => by
    rw [join_cons2, List.append_assoc, List.singleton_append, spl_app _ (h x (by simp)), spl_join (by simp) (fun z hz => h z (List.mem_cons_of_mem _ hz))]
/-- What stands ahead of a byte, and behind it. -/
def bef (c : UInt8) : List UInt8 → List UInt8
  | [] => []
  | b :: l => if b = c then [] else b :: bef c l
def aft (c : UInt8) : List UInt8 → List UInt8
  | [] => []
  | b :: l => if b = c then l else aft c l
theorem bef_aft {c : UInt8} : ∀ {l : List UInt8}, c ∈ l → bef c l ++ c :: aft c l = l
  | b :: l, h => by
    unfold bef aft
    by_cases e : b = c
    · rw [if_pos e, if_pos e, e]; rfl
    · rw [if_neg e, if_neg e, List.cons_append, bef_aft (by
        rcases List.mem_cons.1 h with h | h
        · exact absurd h.symm e
        · exact h)]
theorem bef_app {c : UInt8} : ∀ {k : List UInt8} (v : List UInt8), c ∉ k → bef c (k ++ c :: v) = k
  | [], v, _ => by show bef c (c :: v) = []; rw [bef, if_pos rfl]
  | b :: k, v, h => by
    rw [List.mem_cons, not_or] at h
    show bef c (b :: (k ++ c :: v)) = _
    rw [bef, if_neg (fun e => h.1 e.symm), bef_app v h.2]
theorem aft_app {c : UInt8} : ∀ {k : List UInt8} (v : List UInt8), c ∉ k → aft c (k ++ c :: v) = v
  | [], v, _ => by show aft c (c :: v) = v; rw [aft, if_pos rfl]
  | b :: k, v, h => by
    rw [List.mem_cons, not_or] at h
    show aft c (b :: (k ++ c :: v)) = _
    rw [aft, if_neg (fun e => h.1 e.symm), aft_app v h.2]
theorem bef_no {c : UInt8} : ∀ {l : List UInt8}, c ∉ bef c l
  | [] => by simp [bef]
  | b :: l => by
    unfold bef
    split
    · simp
    · rename_i h
      rw [List.mem_cons, not_or]
      exact ⟨fun e => h e.symm, bef_no⟩
theorem ixb_in {c : UInt8} : ∀ {l : List UInt8}, c ∈ l → Lib.indexByte l c = ((bef c l).length : Int)
  | b :: l, h => by
    unfold Lib.indexByte bef
    by_cases e : b = c
    · rw [if_pos (beq_iff_eq.2 e), if_pos e]; rfl
    · have hm : c ∈ l := by
        rcases List.mem_cons.1 h with h | h
        · exact absurd h.symm e
        · exact h
      have ih := ixb_in hm
      rw [if_neg (fun q => e (beq_iff_eq.1 q)), if_neg e, ih, if_neg (by simp), List.length_cons]
      omega
theorem ixb_out {c : UInt8} : ∀ {l : List UInt8}, c ∉ l → Lib.indexByte l c = -1
  | [], _ => rfl
  | b :: l, h => by
    rw [List.mem_cons, not_or] at h
    unfold Lib.indexByte
    rw [if_neg (fun q => h.1 (beq_iff_eq.1 q).symm), ixb_out h.2]; rfl
theorem bef_len_le (c : UInt8) : ∀ l : List UInt8, (bef c l).length ≤ l.length
  | [] => Nat.le_refl _
  | b :: l => by
    have := bef_len_le c l
    unfold bef
    split
    · simp
    · simp; exact this
theorem take_bef {c : UInt8} {l : List UInt8} (h : c ∈ l) : l.take (bef c l).length = bef c l := by
  have e := bef_aft h
  calc l.take (bef c l).length = (bef c l ++ c :: aft c l).take (bef c l).length := by rw [e]
    _ = bef c l := List.take_left
theorem drop_aft {c : UInt8} {l : List UInt8} (h : c ∈ l) : l.drop ((bef c l).length + 1) = aft c l := by
  have e := bef_aft h
  have : (bef c l ++ c :: aft c l).drop ((bef c l).length + 1) = aft c l := by
    rw [List.drop_append]; simp
  rw [e] at this; exact this
theorem bef_out {c : UInt8} : ∀ {l : List UInt8}, c ∉ l → bef c l = l
  | [], _ => rfl
  | b :: l, h => by
    rw [List.mem_cons, not_or] at h
    rw [bef, if_neg (fun e => h.1 e.symm), bef_out h.2]
theorem aft_out {c : UInt8} : ∀ {l : List UInt8}, c ∉ l → aft c l = []
  | [], _ => rfl
  | b :: l, h => by
    rw [List.mem_cons, not_or] at h
    rw [aft, if_neg (fun e => h.1 e.symm), aft_out h.2]
/-- What is wrong with a line: 1 its size, 3 its form. -/
def okK (c : UInt8) : Bool := (decide (97 ≤ c.toNat) && decide (c.toNat ≤ 122)) || decide (c.toNat = 95)
def okV (c : UInt8) : Bool := decide (33 ≤ c.toNat) && decide (c.toNat ≤ 126)
def lnC (k v : List UInt8) : Int :=
  if k.length < 1 ∨ 30 < k.length ∨ 70 < v.length then 1 else if k.all okK && v.all okV then 0 else 3
theorem lnC_val (k v : List UInt8) : lnC k v = 0 ∨ lnC k v = 1 ∨ lnC k v = 3 := by
  unfold lnC; split
  · exact .inr (.inl rfl)
  · split
    · exact .inl rfl
    · exact .inr (.inr rfl)
theorem lnC_ok {k v : List UInt8} (h : lnC k v = 0) : 1 ≤ k.length ∧ k.length ≤ 30 ∧ v.length ≤ 70 ∧ k.all okK = true ∧ v.all okV = true := by
  unfold lnC at h
  split at h
  · cases h
  · split at h
    · rename_i h1 h2
      rw [Bool.and_eq_true] at h2
      exact ⟨by omega, by omega, by omega, h2.1, h2.2⟩
    · cases h
theorem getD_mem {l : List UInt8} {i : Nat} (h : i < l.length) : l.getD i 0 ∈ l := by
  rw [List.getD_eq_getElem?_getD, List.getElem?_eq_getElem h]; exact List.getElem_mem h
theorem okK_no {c : UInt8} (h : (c.toNat < 97 ∨ 122 < c.toNat) ∧ ¬ c = 95) : okK c = false := by
  unfold okK
  have e : ¬ c.toNat = 95 := fun q => h.2 (UInt8.toNat_inj.1 q)
  rw [decide_eq_false e, Bool.or_false]
  rcases h.1 with k | k
  · rw [decide_eq_false (by omega : ¬ 97 ≤ c.toNat)]; rfl
  · rw [decide_eq_false (by omega : ¬ c.toNat ≤ 122), Bool.and_false]
theorem okK_yes {c : UInt8} (h : ¬ ((c.toNat < 97 ∨ 122 < c.toNat) ∧ ¬ c = 95)) : okK c = true := by
  unfold okK
  by_cases e : c = 95
  · subst e; rfl
  · have : ¬ (c.toNat < 97 ∨ 122 < c.toNat) := fun k => h ⟨k, e⟩
    rw [decide_eq_true (by omega : 97 ≤ c.toNat), decide_eq_true (by omega : c.toNat ≤ 122)]; rfl
theorem okV_no {c : UInt8} (h : c.toNat ≤ 32 ∨ 126 < c.toNat) : okV c = false := by
  unfold okV
  rcases h with k | k
  · rw [decide_eq_false (by omega : ¬ 33 ≤ c.toNat)]; rfl
  · rw [decide_eq_false (by omega : ¬ c.toNat ≤ 126), Bool.and_false]
theorem okV_yes {c : UInt8} (h : ¬ (c.toNat ≤ 32 ∨ 126 < c.toNat)) : okV c = true := by
  unfold okV
  rw [decide_eq_true (by omega : 33 ≤ c.toNat), decide_eq_true (by omega : c.toNat ≤ 126)]; rfl
theorem spl_piece {c : UInt8} : ∀ {l : List UInt8} {x : List UInt8}, x ∈ spl c l → x.length ≤ l.length
  | [], x, h => by unfold spl at h; simp at h; rw [h]; exact Nat.le_refl _
  | b :: l, x, h => by
    by_cases e : b = c
    · subst e
      rw [spl_eq] at h
      rcases List.mem_cons.1 h with rfl | h
      · exact Nat.zero_le _
      · have := spl_piece h; simp only [List.length_cons]; omega
    · obtain ⟨y, ys, k⟩ := spl_ne c l
      rw [spl_cons e k] at h
      rcases List.mem_cons.1 h with rfl | h
      · have : y ∈ spl c l := by rw [k]; simp
        have := spl_piece this; simp only [List.length_cons]; omega
      · have : x ∈ spl c l := by rw [k]; exact List.mem_cons_of_mem _ h
        have := spl_piece this; simp only [List.length_cons]; omega
theorem spl_at {c : UInt8} {l : List UInt8} (i : Nat) : ((spl c l).getD i []).length ≤ l.length := by
  rw [List.getD_eq_getElem?_getD]
  cases h : (spl c l)[i]? with
  | none => exact Nat.zero_le _
  | some x => exact spl_piece (List.mem_of_getElem? h)
theorem lnC_bad1 {k v : List UInt8} {i : Nat} (h : ¬ (k.length < 1 ∨ 30 < k.length ∨ 70 < v.length)) (hi : i < k.length) (hb : okK (k.getD i 0) = false) : lnC k v = 3 := by
  unfold lnC
  rw [if_neg h]
  cases ha : k.all okK with
  | false => rfl
  | true => rw [List.all_eq_true] at ha; rw [ha _ (getD_mem hi)] at hb; cases hb
theorem lnC_bad2 {k v : List UInt8} {i : Nat} (h : ¬ (k.length < 1 ∨ 30 < k.length ∨ 70 < v.length)) (hi : i < v.length) (hb : okV (v.getD i 0) = false) : lnC k v = 3 := by
  unfold lnC
  rw [if_neg h]
  cases ha : v.all okV with
  | false => rw [Bool.and_false]; rfl
  | true => rw [List.all_eq_true] at ha; rw [ha _ (getD_mem hi)] at hb; cases hb
theorem lnC_good {k v : List UInt8} (h : ¬ (k.length < 1 ∨ 30 < k.length ∨ 70 < v.length)) (h1 : (k.take k.length).all okK = true) (h2 : (v.take v.length).all okV = true) : lnC k v = 0 := by
  rw [List.take_length] at h1 h2
  unfold lnC
  rw [if_neg h, h1, h2]; rfl
theorem take_all {f : UInt8 → Bool} {l : List UInt8} {i : Nat} (h : i < l.length) (h1 : (l.take i).all f = true) (h2 : f (l.getD i 0) = true) : (l.take (i + 1)).all f = true := by
  rw [List.take_add_one, List.all_append, h1, List.getElem?_eq_getElem h]
  rw [List.getD_eq_getElem?_getD, List.getElem?_eq_getElem h] at h2
  simpa using h2
abbrev LnP := List UInt8 × List UInt8
/-- The lines of pieces, from the i-th on, behind those that were met. -/
def lnR (acc : List LnP) (i : Nat) : List (List UInt8) → List LnP × Int × Int
  | [] => (acc, 0, 0)
  | t :: ts => if (61 : UInt8) ∈ t then (if lnC (bef 61 t) (aft 61 t) = 0 then lnR (acc ++ [(bef 61 t, aft 61 t)]) (i + 1) ts else ([], (i : Int) + 1, lnC (bef 61 t) (aft 61 t))) else ([], (i : Int) + 1, 3)
def splitR (s : List UInt8) : List LnP × Int × Int :=
  if 3000 < s.length then ([], 0, 1) else if s = [] then ([], 0, 0) else if 60 < (spl 10 s).length then ([], 0, 1) else lnR [] 0 (spl 10 s)
abbrev cutP (t : List UInt8) : LnP := (bef 61 t, aft 61 t)
abbrev ltxt (x : LnP) : List UInt8 := x.1 ++ 61 :: x.2
theorem lnR_at {L : List (List UInt8)} {i : Nat} (h : i < L.length) (acc : List LnP) : lnR acc i (L.drop i) =
    if (61 : UInt8) ∈ L.getD i [] then (if lnC (bef 61 (L.getD i [])) (aft 61 (L.getD i [])) = 0 then lnR (acc ++ [cutP (L.getD i [])]) (i + 1) (L.drop (i + 1)) else ([], (i : Int) + 1, lnC (bef 61 (L.getD i [])) (aft 61 (L.getD i [])))) else ([], (i : Int) + 1, 3) := by
  rw [List.drop_eq_getElem_cons h, lnR, List.getD_eq_getElem?_getD, List.getElem?_eq_getElem h]; rfl
theorem lnR_end {L : List (List UInt8)} (acc : List LnP) : lnR acc L.length (L.drop L.length) = (acc, 0, 0) := by rw [List.drop_length, lnR]
theorem accL_succ {L : List (List UInt8)} {i : Nat} (h : i < L.length) : (L.take (i + 1)).map cutP = (L.take i).map cutP ++ [cutP (L.getD i [])] := by
  rw [List.take_add_one, List.getElem?_eq_getElem h, List.map_append, List.getD_eq_getElem?_getD, List.getElem?_eq_getElem h]; rfl
/-- What is said of pieces: all are lines, or the one that is not is told by its number. -/
theorem lnR_cases : ∀ (L : List (List UInt8)) (acc : List LnP) (i : Nat),
    (lnR acc i L = (acc ++ L.map cutP, 0, 0) ∧ ∀ t ∈ L, (61 : UInt8) ∈ t ∧ lnC (bef 61 t) (aft 61 t) = 0) ∨ (∃ n e : Int, lnR acc i L = ([], n, e) ∧ e ≠ 0 ∧ (i : Int) < n ∧ n ≤ i + L.length)
  | [], acc, i => .inl ⟨by simp [lnR], fun t h => by cases h⟩
  | t :: ts, acc, i => by
    unfold lnR
    by_cases h : (61 : UInt8) ∈ t
    · rw [if_pos h]
      by_cases k : lnC (bef 61 t) (aft 61 t) = 0
      · rw [if_pos k]
        rcases lnR_cases ts (acc ++ [cutP t]) (i + 1) with ⟨e, q⟩ | ⟨n, e, h1, h2, h3, h4⟩
        · left
          rw [e]
          refine ⟨by simp, fun x hx => ?_⟩
          rcases List.mem_cons.1 hx with rfl | hx
          · exact ⟨h, k⟩
          · exact q x hx
        · right
          exact ⟨n, e, h1, h2, by omega, by simp only [List.length_cons]; omega⟩
      · rw [if_neg k]
        exact .inr ⟨_, _, rfl, k, by omega, by simp only [List.length_cons]; omega⟩
    · rw [if_neg h]
      exact .inr ⟨_, _, rfl, by decide, by omega, by simp only [List.length_cons]; omega⟩
theorem ltxt_cut {t : List UInt8} (h : (61 : UInt8) ∈ t) : ltxt (cutP t) = t := bef_aft h
theorem lines_txt {L : List (List UInt8)} (h : ∀ t ∈ L, (61 : UInt8) ∈ t) : (L.map cutP).map ltxt = L := by
  rw [List.map_map]
  refine (List.map_congr_left (g := id) fun t ht => ?_).trans (List.map_id L)
  exact ltxt_cut (h t ht)
/-- Lines joined, and what is wrong with them. -/
def jnE : List LnP → Int
  | [] => 0
  | x :: xs => if lnC x.1 x.2 = 0 then jnE xs else lnC x.1 x.2
theorem jnE_at {L : List LnP} {i : Nat} (h : i < L.length) : jnE (L.drop i) = if lnC (L.getD i ([], [])).1 (L.getD i ([], [])).2 = 0 then jnE (L.drop (i + 1)) else lnC (L.getD i ([], [])).1 (L.getD i ([], [])).2 := by
  rw [List.drop_eq_getElem_cons h, jnE, List.getD_eq_getElem?_getD, List.getElem?_eq_getElem h]; rfl
theorem jnE_all {L : List LnP} (h : ∀ x ∈ L, lnC x.1 x.2 = 0) : jnE L = 0 := by
  induction L with
  | nil => rfl
  | cons x xs ih => rw [jnE, if_pos (h x (by simp)), ih fun y hy => h y (List.mem_cons_of_mem _ hy)]
def jtx (L : List LnP) : List UInt8 := Lib.join (L.map ltxt) [10]
def joinR (L : List LnP) : List UInt8 × Int :=
  if 60 < L.length then ([], 1) else if jnE L = 0 then (if 3000 < (jtx L).length then ([], 1) else (jtx L, 0)) else ([], jnE L)
theorem turns_ok {s : List UInt8} (h : (splitR s).2.2 = 0) : joinR (splitR s).1 = (s, 0) ∧ (splitR s).2.1 = 0 := by
  unfold splitR at h ⊢
  by_cases h1 : 3000 < s.length
  · rw [if_pos h1] at h; cases h
  rw [if_neg h1] at h ⊢
  by_cases h2 : s = []
  · rw [if_pos h2, h2]; exact ⟨rfl, rfl⟩
  rw [if_neg h2] at h ⊢
  by_cases h3 : 60 < (spl 10 s).length
  · rw [if_pos h3] at h; cases h
  rw [if_neg h3] at h ⊢
  rcases lnR_cases (spl 10 s) [] 0 with ⟨e, q⟩ | ⟨n, e, k1, k2, k3, k4⟩
  · rw [e]
    have t : jtx ([] ++ (spl 10 s).map cutP) = s := by
      rw [List.nil_append]; unfold jtx; rw [lines_txt fun t ht => (q t ht).1, join_spl]
    refine ⟨?_, rfl⟩
    unfold joinR
    rw [if_neg (by simpa using h3), if_pos (jnE_all fun x hx => by
      rw [List.nil_append] at hx
      obtain ⟨t, ht, rfl⟩ := List.mem_map.1 hx
      exact (q t ht).2), t, if_neg h1]
  · rw [k1] at h; exact absurd h k2
theorem turns_no {s : List UInt8} (h : (splitR s).2.2 ≠ 0) : (splitR s).1 = [] ∧ 0 ≤ (splitR s).2.1 ∧ (splitR s).2.1 ≤ 1 + (s.count 10 : Nat) := by
  unfold splitR at h ⊢
  by_cases h1 : 3000 < s.length
  · rw [if_pos h1]; exact ⟨rfl, by show (0 : Int) ≤ 0; omega, by show (0 : Int) ≤ _; omega⟩
  rw [if_neg h1] at h ⊢
  by_cases h2 : s = []
  · rw [if_pos h2]; exact ⟨rfl, by show (0 : Int) ≤ 0; omega, by show (0 : Int) ≤ _; omega⟩
  rw [if_neg h2] at h ⊢
  by_cases h3 : 60 < (spl 10 s).length
  · rw [if_pos h3]; exact ⟨rfl, by show (0 : Int) ≤ 0; omega, by show (0 : Int) ≤ _; omega⟩
  rw [if_neg h3] at h ⊢
  rcases lnR_cases (spl 10 s) [] 0 with ⟨e, q⟩ | ⟨n, e, k1, k2, k3, k4⟩
  · rw [e] at h; exact absurd rfl h
  · rw [k1]
    have := spl_len 10 s
    exact ⟨rfl, by show 0 ≤ n; omega, by show n ≤ _; omega⟩
theorem all_not {f : UInt8 → Bool} {l : List UInt8} {c : UInt8} (h : l.all f = true) (hc : f c = false) : c ∉ l := fun m => by
  rw [List.all_eq_true] at h
  rw [h c m] at hc; cases hc
theorem ltxt_no {x : LnP} (h : lnC x.1 x.2 = 0) : (10 : UInt8) ∉ ltxt x ∧ cutP (ltxt x) = x ∧ (61 : UInt8) ∈ ltxt x ∧ (ltxt x).length ≤ 101 ∧ 2 ≤ (ltxt x).length + 1 := by
  obtain ⟨h1, h2, h3, h4, h5⟩ := lnC_ok h
  have a : (10 : UInt8) ∉ x.1 := all_not h4 (by decide)
  have b : (10 : UInt8) ∉ x.2 := all_not h5 (by decide)
  have c : (61 : UInt8) ∉ x.1 := all_not h4 (by decide)
  refine ⟨fun m => ?_, ?_, by simp [ltxt], by simp [ltxt]; omega, by simp [ltxt]; omega⟩
  · rcases List.mem_append.1 m with m | m
    · exact a m
    · rcases List.mem_cons.1 m with m | m
      · cases m
      · exact b m
  · show (bef 61 (x.1 ++ 61 :: x.2), aft 61 (x.1 ++ 61 :: x.2)) = x
    rw [bef_app _ c, aft_app _ c]
theorem back_ok {L : List LnP} (hn : L.length ≤ 60) (h : ∀ x ∈ L, lnC x.1 x.2 = 0) (hl : (jtx L).length ≤ 3000) : joinR L = (jtx L, 0) ∧ splitR (jtx L) = (L, 0, 0) := by
  refine ⟨by unfold joinR; rw [if_neg (by omega), if_pos (jnE_all h), if_neg (by omega)], ?_⟩
  unfold splitR
  rw [if_neg (by omega)]
  cases L with
  | nil => rfl
  | cons x xs =>
    have hx := ltxt_no (h x (by simp))
    have e : spl 10 (jtx (x :: xs)) = (x :: xs).map ltxt := spl_join (by simp) fun t ht => by
      obtain ⟨y, hy, rfl⟩ := List.mem_map.1 ht
      exact (ltxt_no (h y hy)).1
    have hne : jtx (x :: xs) ≠ [] := fun q => by
      have : (jtx (x :: xs)).length = 0 := by rw [q]; rfl
      unfold jtx at this
      rw [List.map_cons, Lib.join_cons, List.length_append] at this
      simp [ltxt] at this
    rw [if_neg hne, e, if_neg (by simpa using hn)]
    rcases lnR_cases ((x :: xs).map ltxt) [] 0 with ⟨q, _⟩ | ⟨n, er, k1, k2, k3, k4⟩
    · rw [q, List.nil_append, List.map_map]
      refine Prod.ext ((List.map_congr_left (g := id) fun t ht => ?_).trans (List.map_id _)) rfl
      exact (ltxt_no (h t ht)).2.1
    · exfalso
      have : ∀ (M : List LnP) (acc : List LnP) (i : Nat), (∀ y ∈ M, lnC y.1 y.2 = 0) → (lnR acc i (M.map ltxt)).2.2 = 0 := by
        intro M
        induction M with
        | nil => intro acc i _; rfl
        | cons y ys ih =>
          intro acc i hy
          have k := ltxt_no (hy y (by simp))
          rw [List.map_cons, lnR, if_pos k.2.2.1]
          have e1 : bef 61 (ltxt y) = y.1 := congrArg Prod.fst k.2.1
          have e2 : aft 61 (ltxt y) = y.2 := congrArg Prod.snd k.2.1
          rw [e1, e2, if_pos (hy y (by simp))]
          exact ih _ _ fun z hz => hy z (List.mem_cons_of_mem _ hz)
      have z := this (x :: xs) [] 0 h
      rw [k1] at z
      exact k2 z
theorem jtx_len {L : List LnP} (h : ∀ x ∈ L, lnC x.1 x.2 = 0) : (jtx L).length ≤ 102 * L.length := by
  induction L with
  | nil => exact Nat.le_refl _
  | cons x xs ih =>
    have hx := (ltxt_no (h x (by simp))).2.2.2.1
    have ih := ih fun y hy => h y (List.mem_cons_of_mem _ hy)
    cases xs with
    | nil => unfold jtx; rw [List.map_cons, List.map_nil, Lib.join_one]; simp only [List.length_cons, List.length_nil]; omega
    | cons y ys =>
      unfold jtx at ih ⊢
      rw [List.map_cons, List.map_cons, join_cons2, List.length_append, List.length_append]
      rw [List.map_cons] at ih
      simp only [List.length_cons, List.length_nil] at ih ⊢
      omega
end Go.Proofs.YtcebndkiagbddaaDoor
