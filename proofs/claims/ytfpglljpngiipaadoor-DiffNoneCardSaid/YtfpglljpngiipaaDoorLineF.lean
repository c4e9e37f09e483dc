/- Lines of texts, plainly. It names no function of the program. -/
import Derived.Lib.SplitLaws
import Derived.Lib.IndexBytes
import Derived.Lib.Join
namespace Go.Proofs.YtfpglljpngiipaaDoor
set_option linter.unusedVariables false
set_option linter.unusedSimpArgs false

/-- A text cut at a byte, wherever it stands. -/
def spl (c : UInt8) : List UInt8 → List (List UInt8)
  | [] => [[]]
  | b :: l => if b = c then [] :: spl c l else match spl c l with
    | [] => [[b]]
    | x :: xs => (b :: x) :: xs
theorem spl_ne (c : UInt8) : ∀ l, ∃ x xs, spl c l = x :: xs
  | [] => ⟨[], [], rfl⟩
  | b :: l => by
    unfold spl
    split
    · exact ⟨_, _, rfl⟩
    · split
      · exact ⟨_, _, rfl⟩
      · exact ⟨_, _, rfl⟩
theorem spl_eq {c : UInt8} (l : List UInt8) : spl c (c :: l) = [] :: spl c l := by rw [spl, if_pos rfl]
theorem spl_cons {b c : UInt8} (h : b ≠ c) {l x xs} (e : spl c l = x :: xs) : spl c (b :: l) = (b :: x) :: xs := by rw [spl, if_neg h, e]
theorem spl_len (c : UInt8) : ∀ l, (spl c l).length = l.count c + 1
  | [] => rfl
  | b :: l => by
    by_cases h : b = c
    · subst h; rw [spl_eq, List.length_cons, spl_len b l, List.count_cons_self]
    · obtain ⟨x, xs, e⟩ := spl_ne c l
      have := spl_len c l
      rw [spl_cons h e, List.length_cons, List.count_cons_of_ne (by simpa using h)]
      rw [e, List.length_cons] at this; exact this
theorem index_eq1 (c : UInt8) (l : List UInt8) : Lib.index (c :: l) [c] = ((0 : Nat) : Int) := by rw [Lib.index]; simp [List.isPrefixOf]
theorem index_ne1 {b c : UInt8} (h : b ≠ c) (l : List UInt8) : Lib.index (b :: l) [c] = if Lib.index l [c] == -1 then -1 else Lib.index l [c] + 1 := by
  have hp : ([c] : List UInt8).isPrefixOf (b :: l) = false := by simp [List.isPrefixOf, Ne.symm h]
  rw [Lib.index, hp]; simp
theorem splitK_one (c : UInt8) : ∀ l : List UInt8, Lib.splitK [c] 0 (l.count c) l = spl c l
  | [] => rfl
  | b :: l => by
    have ih := splitK_one c l
    by_cases h : b = c
    · subst h
      rw [List.count_cons_self, spl_eq, Lib.splitK, index_eq1, ← ih]
      simp
    · obtain ⟨x, xs, e⟩ := spl_ne c l
      rw [spl_cons h e, List.count_cons_of_ne (by simpa using h)]
      rw [e] at ih
      cases hk : l.count c with
      | zero =>
        rw [hk, Lib.splitK] at ih
        cases ih; rfl
      | succ k =>
        rw [hk, Lib.splitK] at ih
        have hm : ¬ Lib.index l [c] = -1 := fun q => by
          have := Lib.count_miss q
          rw [Lib.count_one] at this; omega
        have hge := Lib.index_ge l [c]
        rw [if_neg (fun q => hm (beq_iff_eq.1 q))] at ih
        obtain ⟨j, hj⟩ : ∃ j : Nat, Lib.index l [c] = j := ⟨(Lib.index l [c]).toNat, by omega⟩
        have e1 : Lib.index (b :: l) [c] = ((j + 1 : Nat) : Int) := by rw [index_ne1 h, if_neg (fun q => hm (beq_iff_eq.1 q)), hj]; omega
        rw [Lib.splitK, e1, if_neg (by simp; omega)]
        rw [hj] at ih
        simp only [Int.toNat_natCast, Nat.add_zero, List.length_singleton] at ih ⊢
        rw [List.take_succ_cons, List.drop_succ_cons]
        cases ih; rfl
theorem splitB_one (c : UInt8) (s : ByteArray) : (Lib.splitB ⟨#[c]⟩ 0 (Lib.countB s ⟨#[c]⟩) s).map (·.data.toList) = spl c s.data.toList := by
  rw [Lib.splitB_data]
  show Lib.splitK [c] 0 (Lib.count s.data.toList [c]) s.data.toList = _
  rw [Lib.count_one, splitK_one]
theorem join_cons2 (x y : List UInt8) (r : List (List UInt8)) (sep : List UInt8) : Lib.join (x :: y :: r) sep = x ++ sep ++ Lib.join (y :: r) sep := by
  rw [Lib.join_cons, Lib.join_cons]
  simp [Lib.joinTail, List.append_assoc]
theorem join_spl (c : UInt8) : ∀ l, Lib.join (spl c l) [c] = l
  | [] => Lib.join_one _ _
  | b :: l => by
    have ih := join_spl c l
    obtain ⟨x, xs, e⟩ := spl_ne c l
    by_cases h : b = c
    · subst h
      rw [spl_eq, e, join_cons2, ← e, ih]; rfl
    · rw [spl_cons h e]
      rw [e, Lib.join_cons] at ih
      rw [Lib.join_cons, List.cons_append, ih]
theorem spl_none {c : UInt8} : ∀ {x : List UInt8}, c ∉ x → spl c x = [x]
  | [], _ => rfl
  | b :: x, h => by
    rw [List.mem_cons, not_or] at h
    exact spl_cons (fun e => h.1 e.symm) (spl_none h.2)
/-- What stands ahead of a byte, and behind it. -/
def bef (c : UInt8) : List UInt8 → List UInt8
  | [] => []
  | b :: l => if b = c then [] else b :: bef c l
def aft (c : UInt8) : List UInt8 → List UInt8
  | [] => []
  | b :: l => if b = c then l else aft c l
theorem bef_aft {c : UInt8} : ∀ {l : List UInt8}, c ∈ l → bef c l ++ c :: aft c l = l
  | b :: l, h => by
    unfold bef aft
    by_cases e : b = c
    · rw [if_pos e, if_pos e, e]; rfl
    · rw [if_neg e, if_neg e, List.cons_append, bef_aft (by
        rcases List.mem_cons.1 h with h | h
        · exact absurd h.symm e
        · exact h)]
theorem ixb_in {c : UInt8} : ∀ {l : List UInt8}, c ∈ l → Lib.indexByte l c = ((bef c l).length : Int)
  | b :: l, h => by
    unfold Lib.indexByte bef
    by_cases e : b = c
    · rw [if_pos (beq_iff_eq.2 e), if_pos e]; rfl
    · have hm : c ∈ l := by
        rcases List.mem_cons.1 h with h | h
        · exact absurd h.symm e
        · exact h
      have ih := ixb_in hm
      rw [if_neg (fun q => e (beq_iff_eq.1 q)), if_neg e, ih, if_neg (by simp), List.length_cons]
      omega
theorem ixb_out {c : UInt8} : ∀ {l : List UInt8}, c ∉ l → Lib.indexByte l c = -1
  | [], _ => rfl
  | b :: l, h => by
    rw [List.mem_cons, not_or] at h
    unfold Lib.indexByte
    rw [if_neg (fun q => h.1 (beq_iff_eq.1 q).symm), ixb_out h.2]; rfl
theorem take_bef {c : UInt8} {l : List UInt8} (h : c ∈ l) : l.take (bef c l).length = bef c l := by
  have e := bef_aft h
  calc l.take (bef c l).length = (bef c l ++ c :: aft c l).take (bef c l).length := by rw [e]
    _ = bef c l := List.take_left
theorem drop_aft {c : UInt8} {l : List UInt8} (h : c ∈ l) : l.drop ((bef c l).length + 1) = aft c l := by
  have e := bef_aft h
  have : (bef c l ++ c :: aft c l).drop ((bef c l).length + 1) = aft c l := by
    rw [List.drop_append]; simp
  rw [e] at this; exact this
theorem bef_out {c : UInt8} : ∀ {l : List UInt8}, c ∉ l → bef c l = l
  | [], _ => rfl
  | b :: l, h => by
    rw [List.mem_cons, not_or] at h
    rw [bef, if_neg (fun e => h.1 e.symm), bef_out h.2]
theorem aft_out {c : UInt8} : ∀ {l : List UInt8}, c ∉ l → aft c l = []
  | [], _ => rfl
  | b :: l, h => by
    rw [List.mem_cons, not_or] at h
    rw [aft, if_neg (fun e => h.1 e.symm), aft_out h.2]
def okV (c : UInt8) : Bool := decide (33 ≤ c.toNat) && decide (c.toNat ≤ 126)
theorem getD_mem {l : List UInt8} {i : Nat} (h : i < l.length) : l.getD i 0 ∈ l := by
  rw [List.getD_eq_getElem?_getD, List.getElem?_eq_getElem h]; exact List.getElem_mem h
theorem spl_piece {c : UInt8} : ∀ {l : List UInt8} {x : List UInt8}, x ∈ spl c l → x.length ≤ l.length
  | [], x, h => by unfold spl at h; simp at h; rw [h]; exact Nat.le_refl _
  | b :: l, x, h => by
    by_cases e : b = c
    · subst e
      rw [spl_eq] at h
      rcases List.mem_cons.1 h with rfl | h
      · exact Nat.zero_le _
      · have := spl_piece h; simp only [List.length_cons]; omega
    · obtain ⟨y, ys, k⟩ := spl_ne c l
      rw [spl_cons e k] at h
      rcases List.mem_cons.1 h with rfl | h
      · have : y ∈ spl c l := by rw [k]; simp
        have := spl_piece this; simp only [List.length_cons]; omega
      · have : x ∈ spl c l := by rw [k]; exact List.mem_cons_of_mem _ h
        have := spl_piece this; simp only [List.length_cons]; omega
theorem spl_at {c : UInt8} {l : List UInt8} (i : Nat) : ((spl c l).getD i []).length ≤ l.length := by
  rw [List.getD_eq_getElem?_getD]
  cases h : (spl c l)[i]? with
  | none => exact Nat.zero_le _
  | some x => exact spl_piece (List.mem_of_getElem? h)
theorem take_all {f : UInt8 → Bool} {l : List UInt8} {i : Nat} (h : i < l.length) (h1 : (l.take i).all f = true) (h2 : f (l.getD i 0) = true) : (l.take (i + 1)).all f = true := by
  rw [List.take_add_one, List.all_append, h1, List.getElem?_eq_getElem h]
  rw [List.getD_eq_getElem?_getD, List.getElem?_eq_getElem h] at h2
  simpa using h2
end Go.Proofs.YtfpglljpngiipaaDoor
