/- A region that draws its order, over values without addresses: its operations make slots and new blocks; what each makes is the same in whatever order. It names no function of the program. -/
import Derived.Test.YtnopdnclefopbaaAbsOpt
import Derived.Test.YtnopdnclefopbaaFloat
namespace Go.Proofs.Ytnopdnclefopbaa
open Go.RowKit
set_option linter.unusedVariables false
set_option linter.unusedSimpArgs false

/-- What an operation makes. -/
structure Eff where
  dst : Option Nat
  val : AV
  hp : List (Nat × OB)
def Eff.sl (e : Eff) : List (Nat × AV) := match e.dst with | some d => [(d, e.val)] | none => []
def Eff.is (e : Eff) (s : Nat) : Bool := match e.dst with | some d => Nat.beq d s | none => false
/-- Which operation makes slot s? -/
def maker (s : Nat) : Nat → List Eff → Option (Nat × AV)
  | _, [] => none
  | i, e :: es => bif e.is s then some (i, e.val) else maker s (i + 1) es
/-- Which operation makes block r? -/
def hmaker (r : Nat) : Nat → List Eff → Option (Nat × OB)
  | _, [] => none
  | i, e :: es => bif (look OB.dead e.hp r).alive then some (i, look OB.dead e.hp r) else hmaker r (i + 1) es
def memN (i : Nat) : List Nat → Bool
  | [] => false
  | j :: l => Nat.beq i j || memN i l
theorem memN_iff {i : Nat} : ∀ {l : List Nat}, memN i l = true ↔ i ∈ l
  | [] => by simp [memN]
  | j :: l => by
    simp only [memN, Bool.or_eq_true, List.mem_cons, memN_iff (l := l)]
    constructor
    · rintro (h | h)
      · exact .inl (Nat.eq_of_beq_eq_true h)
      · exact .inr h
    · rintro (h | h)
      · subst h; exact .inl (by simp)
      · exact .inr h
/-- The operations that o hangs on, at whatever distance. -/
def clos (ops : Array Oper) (i : Nat) : List Nat := closeN ops ops.size (depsOf ops i)
def rdOf (ops : Array Oper) (o : Oper) : List Nat := o.looksAt ops
/-- What is known of slot s when operation i runs. -/
def kn (ops : Array Oper) (effs : List Eff) (base : AS) (i s : Nat) : Option AV :=
  match maker s 0 effs with
  | some (j, v) => bif memN j (depsOf ops i) then some v else none
  | none => some (look AV.any base.slots s)
def knH (ops : Array Oper) (effs : List Eff) (base : AS) (i r : Nat) : Option OB :=
  match hmaker r 0 effs with
  | some (j, v) => bif memN j (clos ops i) then some v else none
  | none => bif (look OB.dead base.heap r).alive then some (look OB.dead base.heap r) else none

section
variable {P : Program} {E : Env} {kp : List Nat} {n : Nat} {ops : Array Oper} {Q : Exit → Act → World → Prop} {base st st' : AS}

/-- Operation i makes e, behind those that it hangs on. -/
def FStep (P : Program) (E : Env) (kp : List Nat) (n : Nat) (ops : Array Oper) (base : AS) (effs : List Eff) (i : Nat) (e : Eff) : Prop :=
  ∀ o, ops[i]? = some o → ∀ st : AS, (∀ s v, memN s (rdOf ops o) = true → kn ops effs base i s = some v → look AV.any st.slots s = v) → (∀ r ob, knH ops effs base i r = some ob → st.ob r = ob) → freeAll st kp e.hp = true →
    Step P E kp n ops o st ⟨e.sl ++ st.slots, e.hp ++ st.heap⟩
def StepsOk (P : Program) (E : Env) (kp : List Nat) (n : Nat) (ops : Array Oper) (base : AS) (effs : List Eff) : Prop := ∀ i e, effs[i]? = some e → FStep P E kp n ops base (effs.take i) i e
def allSl : List Eff → List (Nat × AV)
  | [] => []
  | e :: es => e.sl ++ allSl es
def allHp : List Eff → List (Nat × OB)
  | [] => []
  | e :: es => e.hp ++ allHp es
/-- The goal behind some effects. -/
def AF (P : Program) (E : Env) (kp : List Nat) (n : Nat) (ops : Array Oper) (base : AS) (effs : List Eff) (G : Prop) : Prop := StepsOk P E kp n ops base effs → G
theorem AF.start {G : Prop} (h : AF P E kp n ops base [] G) : G := h (fun i e he => by simp at he)
theorem AF.step {effs : List Eff} {G : Prop} {i : Nat} {o : Oper} {e : Eff} (hi : effs.length = i) (ho : ops[i]? = some o)
    (h : ∀ st : AS, (∀ s v, memN s (rdOf ops o) = true → kn ops effs base i s = some v → look AV.any st.slots s = v) → (∀ r ob, knH ops effs base i r = some ob → st.ob r = ob) → freeAll st kp e.hp = true → Step P E kp n ops o st ⟨e.sl ++ st.slots, e.hp ++ st.heap⟩)
    (k : AF P E kp n ops base (effs ++ [e]) G) : AF P E kp n ops base effs G := fun hs => k fun j e' hj => by
  rcases Nat.lt_trichotomy j effs.length with hlt | heq | hgt
  · rw [List.getElem?_append_left hlt] at hj
    rw [List.take_append_of_le_length (Nat.le_of_lt hlt)]
    exact hs j e' hj
  · subst heq
    rw [List.getElem?_append_right (Nat.le_refl _)] at hj
    simp at hj; subst hj
    rw [List.take_append_of_le_length (Nat.le_refl _), List.take_length]
    subst hi
    intro o' ho'
    rw [ho] at ho'; cases ho'
    exact h
  · rw [List.getElem?_eq_none (by simp; omega)] at hj; cases hj

theorem AF.begin {id : Nat} (h : AF P E kp n ops base [] (AW P E kp n (.region id ops true) Q base)) : AW P E kp n (.region id ops true) Q base := AF.start h
theorem AF.val {effs : List Eff} {G : Prop} {i d : Nat} {o : Oper} {v : AV} (hi : effs.length = i) (ho : ops[i]? = some o)
    (h : ∀ st : AS, (∀ s v, memN s (rdOf ops o) = true → kn ops effs base i s = some v → look AV.any st.slots s = v) → (∀ r ob, knH ops effs base i r = some ob → st.ob r = ob) → Step P E kp n ops o st (st.put d v))
    (k : AF P E kp n ops base (effs ++ [⟨some d, v, []⟩]) G) : AF P E kp n ops base effs G := AF.step (e := ⟨some d, v, []⟩) hi ho (fun st ha hb _ => h st ha hb) k
theorem AF.blk {effs : List Eff} {G : Prop} {i d r : Nat} {o : Oper} {v : AV} {ob : OB} (hi : effs.length = i) (ho : ops[i]? = some o)
    (h : ∀ st : AS, (∀ s v, memN s (rdOf ops o) = true → kn ops effs base i s = some v → look AV.any st.slots s = v) → (∀ r ob, knH ops effs base i r = some ob → st.ob r = ob) → st.free kp r = true → Step P E kp n ops o st ⟨(d, v) :: st.slots, (r, ob) :: st.heap⟩)
    (k : AF P E kp n ops base (effs ++ [⟨some d, v, [(r, ob)]⟩]) G) : AF P E kp n ops base effs G := AF.step (e := ⟨some d, v, [(r, ob)]⟩) hi ho (fun st ha hb hf => h st ha hb (by
      simp only [freeAll, Bool.and_true] at hf; exact hf)) k
theorem AF.cal {effs : List Eff} {G : Prop} {i d : Nat} {o : Oper} {v : AV} {hout : List (Nat × OB)} (hi : effs.length = i) (ho : ops[i]? = some o)
    (h : ∀ st : AS, (∀ s v, memN s (rdOf ops o) = true → kn ops effs base i s = some v → look AV.any st.slots s = v) → (∀ r ob, knH ops effs base i r = some ob → st.ob r = ob) → freeAll st kp hout = true → Step P E kp n ops o st ⟨(d, v) :: st.slots, hout ++ st.heap⟩)
    (k : AF P E kp n ops base (effs ++ [⟨some d, v, hout⟩]) G) : AF P E kp n ops base effs G := AF.step (e := ⟨some d, v, hout⟩) hi ho h k

/-- A slot's value, out of what is known. -/
theorem Gv.k {s : Nat} {v x : AV} (h : look AV.any st.slots s = v) (hx : Gv v x) : Gv (st.ev (.tmp s)) x := by
  show Gv (look AV.any st.slots s) x; rw [h]; exact hx

/-! What is checked of the effects, at the end. -/
/-- No slot is made twice; no block is. -/
def once : List Eff → Bool
  | [] => true
  | e :: es => (match e.dst with | some d => (maker d 0 es).isNone | none => true) && e.hp.all (fun p => (hmaker p.1 0 es).isNone && p.2.alive) && once es
/-- Whoever makes a slot that operation i reads, hangs on i or comes ahead of it in the text. -/
def rdOk (ops : Array Oper) (effs : List Eff) : Bool :=
  (List.range effs.length).all fun i => match ops[i]? with
    | none => true
    | some o => (rdOf ops o).all fun s => match maker s 0 effs with
      | none => true
      | some (k, _) => Nat.blt k i || memN i (clos ops k)
/-- The new blocks' names are new, and whoever speaks of one hangs on its maker. -/
def nmOk (ops : Array Oper) (effs : List Eff) (base : AS) (kp : List Nat) : Bool :=
  freeAll base kp (allHp effs) &&
  (List.range effs.length).all fun i => match effs[i]? with
    | none => true
    | some e => e.hp.all fun p => (List.range effs.length).all fun j => Nat.beq i j || (match effs[j]? with
      | none => true
      | some e' => !(e'.val.has p.1) && !(hHas p.1 e'.hp) || memN i (clos ops j))

def selSl (L : Nat → Bool) : Nat → List Eff → List (Nat × AV)
  | _, [] => []
  | i, e :: es => if L i = true then e.sl ++ selSl L (i + 1) es else selSl L (i + 1) es
def selHp (L : Nat → Bool) : Nat → List Eff → List (Nat × OB)
  | _, [] => []
  | i, e :: es => if L i = true then e.hp ++ selHp L (i + 1) es else selHp L (i + 1) es
theorem maker_ge {s : Nat} : ∀ {es : List Eff} {i j : Nat} {v : AV}, maker s i es = some (j, v) → i ≤ j ∧ j < i + es.length ∧ ∃ e, es[j - i]? = some e ∧ e.is s = true ∧ e.val = v
  | [], i, j, v, h => by simp [maker] at h
  | e :: es, i, j, v, h => by
    simp only [maker] at h
    cases he : e.is s with
    | true =>
      rw [he] at h; simp at h
      obtain ⟨rfl, rfl⟩ := h
      exact ⟨Nat.le_refl _, by simp, e, by simp, he, rfl⟩
    | false =>
      rw [he] at h; simp at h
      obtain ⟨h1, h2, e', h3, h4⟩ := maker_ge h
      exact ⟨by omega, by simp; omega, e', by rw [show j - i = (j - (i + 1)) + 1 from by omega]; simpa using h3, h4⟩
theorem hmaker_ge {r : Nat} : ∀ {es : List Eff} {i j : Nat} {v : OB}, hmaker r i es = some (j, v) → i ≤ j ∧ j < i + es.length ∧ ∃ e, es[j - i]? = some e ∧ (look OB.dead e.hp r).alive = true ∧ look OB.dead e.hp r = v
  | [], i, j, v, h => by simp [hmaker] at h
  | e :: es, i, j, v, h => by
    simp only [hmaker] at h
    cases he : (look OB.dead e.hp r).alive with
    | true =>
      rw [he] at h; simp at h
      obtain ⟨rfl, rfl⟩ := h
      exact ⟨Nat.le_refl _, by simp, e, by simp, he, rfl⟩
    | false =>
      rw [he] at h; simp at h
      obtain ⟨h1, h2, e', h3, h4⟩ := hmaker_ge h
      exact ⟨by omega, by simp; omega, e', by rw [show j - i = (j - (i + 1)) + 1 from by omega]; simpa using h3, h4⟩
theorem maker_take {s : Nat} : ∀ {es : List Eff} {i m j : Nat} {v : AV}, maker s i (es.take m) = some (j, v) → maker s i es = some (j, v)
  | [], i, m, j, v, h => by simp [maker] at h
  | e :: es, i, 0, j, v, h => by simp [maker] at h
  | e :: es, i, m + 1, j, v, h => by
    simp only [List.take_succ_cons, maker] at h ⊢
    cases he : e.is s with
    | true => rw [he] at h; exact h
    | false => rw [he] at h; simp at h ⊢; exact maker_take h
theorem maker_take_none {s : Nat} : ∀ {es : List Eff} {i m j : Nat} {v : AV}, maker s i (es.take m) = none → maker s i es = some (j, v) → i + m ≤ j
  | [], i, m, j, v, _, h => by simp [maker] at h
  | e :: es, i, 0, j, v, _, h => (maker_ge h).1
  | e :: es, i, m + 1, j, v, h0, h => by
    simp only [List.take_succ_cons, maker] at h0 h
    cases he : e.is s with
    | true => rw [he] at h0; simp at h0
    | false => rw [he] at h0 h; simp at h0 h; have := maker_take_none h0 h; omega
theorem hmaker_take {r : Nat} : ∀ {es : List Eff} {i m j : Nat} {v : OB}, hmaker r i (es.take m) = some (j, v) → hmaker r i es = some (j, v)
  | [], i, m, j, v, h => by simp [hmaker] at h
  | e :: es, i, 0, j, v, h => by simp [hmaker] at h
  | e :: es, i, m + 1, j, v, h => by
    simp only [List.take_succ_cons, hmaker] at h ⊢
    cases he : (look OB.dead e.hp r).alive with
    | true => rw [he] at h; exact h
    | false => rw [he] at h; simp at h ⊢; exact hmaker_take h
theorem look_sl (e : Eff) (X : List (Nat × AV)) (s : Nat) : look AV.any (e.sl ++ X) s = if e.is s = true then e.val else look AV.any X s := by
  unfold Eff.sl Eff.is
  cases e.dst with
  | none => simp
  | some d =>
    simp only [List.cons_append, List.nil_append, look_cons]
    by_cases h : d = s
    · subst h; simp
    · rw [if_neg h, if_neg (fun hb => h (Nat.eq_of_beq_eq_true hb))]
theorem look_hp (l X : List (Nat × OB)) (hal : l.all (fun p => p.2.alive) = true) (r : Nat) : look OB.dead (l ++ X) r = if (look OB.dead l r).alive = true then look OB.dead l r else look OB.dead X r := by
  induction l with
  | nil => simp [look, OB.alive]
  | cons p l ih =>
    obtain ⟨k, ob⟩ := p
    simp only [List.all_cons, Bool.and_eq_true] at hal
    rw [List.cons_append, look_cons, look_cons]
    by_cases h : k = r
    · rw [if_pos h, if_pos h, if_pos hal.1]
    · rw [if_neg h, if_neg h]; exact ih hal.2
theorem once_is {e : Eff} {es : List Eff} (h : once (e :: es) = true) {s : Nat} (hs : e.is s = true) : maker s 0 es = none := by
  simp only [once, Bool.and_eq_true] at h
  unfold Eff.is at hs
  cases hd : e.dst with
  | none => rw [hd] at hs; cases hs
  | some d =>
    rw [hd] at hs h
    have := Nat.eq_of_beq_eq_true hs; subst this
    simpa using h.1.1
theorem maker_shift {s : Nat} : ∀ {es : List Eff} (i k : Nat), maker s i es = none → maker s k es = none
  | [], i, k, h => rfl
  | e :: es, i, k, h => by
    simp only [maker] at h ⊢
    cases he : e.is s with
    | true => rw [he] at h; simp at h
    | false => rw [he] at h; simp at h ⊢; exact maker_shift (i + 1) (k + 1) h
theorem hmaker_shift {r : Nat} : ∀ {es : List Eff} (i k : Nat), hmaker r i es = none → hmaker r k es = none
  | [], i, k, h => rfl
  | e :: es, i, k, h => by
    simp only [hmaker] at h ⊢
    cases he : (look OB.dead e.hp r).alive with
    | true => rw [he] at h; simp at h
    | false => rw [he] at h; simp at h ⊢; exact hmaker_shift (i + 1) (k + 1) h
theorem once_tail {e : Eff} {es : List Eff} (h : once (e :: es) = true) : once es = true := by
  simp only [once, Bool.and_eq_true] at h; exact h.2
theorem once_hp {e : Eff} {es : List Eff} (h : once (e :: es) = true) : e.hp.all (fun p => p.2.alive) = true := by
  simp only [once, Bool.and_eq_true, List.all_eq_true] at h ⊢
  exact fun p hp => (h.1.2 p hp).2
theorem look_mem : ∀ {l : List (Nat × OB)} {r : Nat}, (look OB.dead l r).alive = true → (r, look OB.dead l r) ∈ l
  | [], r, h => by cases h
  | (k, x) :: l, r, h => by
    rw [look_cons] at h ⊢
    by_cases e : k = r
    · subst e; rw [if_pos rfl]; simp
    · rw [if_neg e] at h ⊢; exact List.mem_cons_of_mem _ (look_mem h)
theorem once_hm {e : Eff} {es : List Eff} (h : once (e :: es) = true) {r : Nat} (hr : (look OB.dead e.hp r).alive = true) : hmaker r 0 es = none := by
  simp only [once, Bool.and_eq_true, List.all_eq_true] at h
  have := (h.1.2 _ (look_mem hr)).1
  simpa using this
theorem look_sel (L : Nat → Bool) (X : List (Nat × AV)) (s : Nat) : ∀ (es : List Eff) (i : Nat), once es = true →
    look AV.any (selSl L i es ++ X) s = (match maker s i es with | some (j, v) => if L j = true then v else look AV.any X s | none => look AV.any X s)
  | [], i, _ => rfl
  | e :: es, i, h => by
    have ih := look_sel L X s es (i + 1) (once_tail h)
    simp only [selSl, maker]
    cases he : e.is s with
    | true =>
      have hn := maker_shift 0 (i + 1) (once_is h he)
      rw [hn] at ih
      simp only [cond_true]
      by_cases hL : L i = true
      · rw [if_pos hL, if_pos hL, List.append_assoc, look_sl, if_pos he]
      · rw [if_neg hL, if_neg hL]; exact ih
    | false =>
      simp only [cond_false]
      rw [← ih]
      by_cases hL : L i = true
      · rw [if_pos hL, List.append_assoc, look_sl, if_neg (by rw [he]; simp)]
      · rw [if_neg hL]
theorem look_selH (L : Nat → Bool) (X : List (Nat × OB)) (r : Nat) : ∀ (es : List Eff) (i : Nat), once es = true →
    look OB.dead (selHp L i es ++ X) r = (match hmaker r i es with | some (j, v) => if L j = true then v else look OB.dead X r | none => look OB.dead X r)
  | [], i, _ => rfl
  | e :: es, i, h => by
    have ih := look_selH L X r es (i + 1) (once_tail h)
    simp only [selHp, hmaker]
    cases he : (look OB.dead e.hp r).alive with
    | true =>
      have hn := hmaker_shift 0 (i + 1) (once_hm h he)
      rw [hn] at ih
      simp only [cond_true]
      by_cases hL : L i = true
      · rw [if_pos hL, if_pos hL, List.append_assoc, look_hp _ _ (once_hp h), if_pos he]
      · rw [if_neg hL, if_neg hL]; exact ih
    | false =>
      simp only [cond_false]
      rw [← ih]
      by_cases hL : L i = true
      · rw [if_pos hL, List.append_assoc, look_hp _ _ (once_hp h), if_neg (by rw [he]; simp)]
      · rw [if_neg hL]
theorem sel_all (L : Nat → Bool) : ∀ (es : List Eff) (i : Nat), (∀ j, i ≤ j → j < i + es.length → L j = true) → selSl L i es = allSl es ∧ selHp L i es = allHp es
  | [], i, _ => ⟨rfl, rfl⟩
  | e :: es, i, h => by
    obtain ⟨h1, h2⟩ := sel_all L es (i + 1) (fun j hj hj2 => h j (by omega) (by simp at hj2 ⊢; omega))
    simp only [selSl, selHp, allSl, allHp]
    rw [if_pos (h i (Nat.le_refl _) (by simp)), if_pos (h i (Nat.le_refl _) (by simp)), h1, h2]
    exact ⟨rfl, rfl⟩
theorem Sat.congr {a : Act} {w : World} (hs : ∀ s, look AV.any st'.slots s = look AV.any st.slots s) (hh : ∀ r, look OB.dead st'.heap r = look OB.dead st.heap r) (h : Sat E kp n st a w) : Sat E kp n st' a w := by
  obtain ⟨φ, Pub, I, h0, hn, hsl⟩ := h
  exact ⟨φ, Pub, I.sub (fun r => .inl (hh r)), h0, hn, fun s => by rw [hs]; exact hsl s⟩
theorem closeN_in {L : Nat → Bool} (hdc : ∀ i, L i = true → ∀ j ∈ depsOf ops i, L j = true) : ∀ (k : Nat) (s : List Nat), (∀ j ∈ s, L j = true) → ∀ j ∈ closeN ops k s, L j = true
  | 0, _, h => h
  | k + 1, s, h => closeN_in hdc k _ fun j hj => by
    unfold closeStep at hj
    rw [List.mem_filter] at hj
    have hj := hj.2
    rw [Bool.or_eq_true, List.any_eq_true] at hj
    rcases hj with hj | ⟨k, hk, hj⟩
    · exact h j (List.contains_iff_mem.1 hj)
    · exact hdc k (h k hk) j (List.contains_iff_mem.1 hj)
def AD (P : Program) (E : Env) (kp : List Nat) (n : Nat) (ops : Array Oper) (Q : Exit → Act → World → Prop) (fuel : Nat) (listed : Array Bool) (st : AS) : Prop := ∀ a w, Sat E kp n st a w → wpAny P .any ops Q fuel listed a w
theorem hHas_append (r : Nat) : ∀ (l m : List (Nat × OB)), hHas r (l ++ m) = (hHas r l || hHas r m)
  | [], m => by simp [hHas]
  | p :: l, m => by simp only [List.cons_append, hHas, hHas_append r l m, Bool.or_assoc]
theorem sHas_append (r : Nat) : ∀ (l m : List (Nat × AV)), sHas r (l ++ m) = (sHas r l || sHas r m)
  | [], m => by simp [sHas]
  | p :: l, m => by simp only [List.cons_append, sHas, sHas_append r l m, Bool.or_assoc]
theorem hHas_sel (r : Nat) (L : Nat → Bool) : ∀ (es : List Eff) (i : Nat), (∀ j e, es[j]? = some e → L (i + j) = true → hHas r e.hp = false) → hHas r (selHp L i es) = false
  | [], i, _ => rfl
  | e :: es, i, h => by
    have ih := hHas_sel r L es (i + 1) (fun j e' hj hL => h (j + 1) e' (by simpa using hj) (by rwa [show i + (j + 1) = i + 1 + j from by omega]))
    simp only [selHp]
    split
    · next hL => rw [hHas_append, ih, h 0 e rfl (by simpa using hL)]; rfl
    · exact ih
theorem sHas_sel (r : Nat) (L : Nat → Bool) : ∀ (es : List Eff) (i : Nat), (∀ j e, es[j]? = some e → L (i + j) = true → e.val.has r = false) → sHas r (selSl L i es) = false
  | [], i, _ => rfl
  | e :: es, i, h => by
    have ih := sHas_sel r L es (i + 1) (fun j e' hj hL => h (j + 1) e' (by simpa using hj) (by rwa [show i + (j + 1) = i + 1 + j from by omega]))
    simp only [selSl]
    split
    · next hL =>
      rw [sHas_append, ih]
      have := h 0 e rfl (by simpa using hL)
      unfold Eff.sl
      cases e.dst <;> simp [sHas, this]
    · exact ih
theorem freeAll_mem : ∀ {l : List (Nat × OB)} {p : Nat × OB}, freeAll st kp l = true → p ∈ l → st.free kp p.1 = true
  | (k, x) :: l, p, h, hp => by
    simp only [freeAll, Bool.and_eq_true] at h
    rcases List.mem_cons.1 hp with e | e
    · subst e; exact h.1
    · exact freeAll_mem h.2 e
theorem freeAll_mk : ∀ {l : List (Nat × OB)}, (∀ p ∈ l, st.free kp p.1 = true) → freeAll st kp l = true
  | [], _ => rfl
  | (k, x) :: l, h => by
    simp only [freeAll, Bool.and_eq_true]
    exact ⟨h (k, x) (by simp), freeAll_mk fun p hp => h p (List.mem_cons_of_mem _ hp)⟩
theorem mem_allHp : ∀ {es : List Eff} {i : Nat} {e : Eff} {p : Nat × OB}, es[i]? = some e → p ∈ e.hp → p ∈ allHp es
  | e :: es, 0, e', p, h, hp => by simp at h; subst h; simp [allHp, hp]
  | e :: es, i + 1, e', p, h, hp => by simp only [allHp, List.mem_append]; exact .inr (mem_allHp (by simpa using h) hp)
theorem free_mk {r : Nat} (h1 : (look OB.dead st.heap r).alive = false) (h2 : hHas r st.heap = false) (h3 : sHas r st.slots = false) (h4 : r ∉ kp) : st.free kp r = true := by
  unfold AS.free
  rw [h1, h2, h3]
  have : kp.contains r = false := by
    cases hc : kp.contains r with
    | false => rfl
    | true => exact absurd (List.contains_iff_mem.1 hc) h4
  rw [this]; rfl
theorem hmaker_mem {r : Nat} : ∀ {es : List Eff} {i : Nat} {e : Eff}, once es = true → es[i]? = some e → (look OB.dead e.hp r).alive = true → ∀ k, hmaker r k es = some (k + i, look OB.dead e.hp r)
  | e :: es, 0, e', ho, h, hr, k => by
    simp at h; subst h
    simp only [hmaker, hr]; rfl
  | e :: es, i + 1, e', ho, h, hr, k => by
    have ih := hmaker_mem (once_tail ho) (by simpa using h) hr (k + 1)
    simp only [hmaker]
    cases he : (look OB.dead e.hp r).alive with
    | true =>
      have := hmaker_shift 0 (k + 1) (once_hm ho he)
      rw [this] at ih; cases ih
    | false => simp only [cond_false]; rw [ih, show k + 1 + i = k + (i + 1) from by omega]
theorem maker_mem {s : Nat} : ∀ {es : List Eff} {i : Nat} {e : Eff}, once es = true → es[i]? = some e → e.is s = true → ∀ k, maker s k es = some (k + i, e.val)
  | e :: es, 0, e', ho, h, hr, k => by
    simp at h; subst h
    simp only [maker, hr]; rfl
  | e :: es, i + 1, e', ho, h, hr, k => by
    have ih := maker_mem (once_tail ho) (by simpa using h) hr (k + 1)
    simp only [maker]
    cases he : e.is s with
    | true =>
      have := maker_shift 0 (k + 1) (once_is ho he)
      rw [this] at ih; cases ih
    | false => simp only [cond_false]; rw [ih, show k + 1 + i = k + (i + 1) from by omega]
theorem look_all_alive {l : List (Nat × OB)} {p : Nat × OB} (hal : l.all (fun p => p.2.alive) = true) (hp : p ∈ l) : (look OB.dead l p.1).alive = true := by
  induction l with
  | nil => cases hp
  | cons q l ih =>
    obtain ⟨k, x⟩ := q
    simp only [List.all_cons, Bool.and_eq_true] at hal
    rw [look_cons]
    by_cases e : k = p.1
    · rw [if_pos e]; exact hal.1
    · rw [if_neg e]
      rcases List.mem_cons.1 hp with h | h
      · subst h; exact absurd rfl e
      · exact ih hal.2 h
theorem once_hp_all : ∀ {es : List Eff} {i : Nat} {e : Eff}, once es = true → es[i]? = some e → e.hp.all (fun p => p.2.alive) = true
  | e :: es, 0, e', h, hi => by simp at hi; subst hi; exact once_hp h
  | e :: es, i + 1, e', h, hi => once_hp_all (once_tail h) (by simpa using hi)

/-- **The end of a region that draws its order**: behind the effects of the first m operations the others come in turn. -/
theorem AF.done {effs : List Eff} {id m : Nat} (hx : P.follows .mixedOrders = true) (hlen : effs.length = m) (hf : floatB ops m = true) (hmn : decide (m ≤ ops.size) = true) (h1 : once effs = true) (h2 : rdOk ops effs = true) (h3 : nmOk ops effs base kp = true)
    (k : AD P E kp n ops Q (ops.size - m) (firstM ops.size m) ⟨allSl effs ++ base.slots, allHp effs ++ base.heap⟩) : AF P E kp n ops base effs (AW P E kp n (.region id ops true) Q base) := by
  intro hs a w hsat
  have hm := of_decide_eq_true hmn
  have hf' := hf
  unfold floatB at hf'
  simp only [Bool.and_eq_true, List.all_eq_true, List.mem_range] at hf'
  obtain ⟨hlow, _⟩ := hf'
  have hdep : ∀ i, i < m → ∀ j ∈ depsOf ops i, j < i := fun i hi j hj => by
    have h0 := hlow i hi
    unfold depsOf at hj
    cases ho : ops[i]? with
    | none => rw [ho] at hj; simp at hj
    | some o =>
      rw [ho] at h0 hj
      simp only [Option.map_some, Option.getD_some, Array.all_eq_true] at h0 hj
      rw [List.mem_map] at hj
      obtain ⟨e, he, rfl⟩ := hj
      rw [List.mem_filter] at he
      obtain ⟨x, hx, hx2⟩ := Array.mem_iff_getElem.1 (Array.mem_def.2 he.1)
      have := h0 x hx
      rw [hx2] at this
      simp only [Bool.or_eq_true, Bool.not_eq_true', decide_eq_true_eq] at this
      rcases this with h5 | h5
      · rw [he.2] at h5; cases h5
      · exact h5
  let S : (Nat → Bool) → AS := fun L => ⟨selSl L 0 effs ++ base.slots, selHp L 0 effs ++ base.heap⟩
  let DC : (Nat → Bool) → Prop := fun L => ∀ i, i < m → L i = true → ∀ j ∈ depsOf ops i, L j = true
  have hcl : ∀ L, DC L → ∀ i, i < m → (∀ j ∈ depsOf ops i, L j = true) → ∀ j ∈ clos ops i, L j = true := fun L hDC i hi hd j hj => by
    have key := closeN_in (ops := ops) (L := fun x => L x && decide (x < m)) (fun x hx y hy => by
      simp only [Bool.and_eq_true, decide_eq_true_eq] at hx ⊢
      exact ⟨hDC x hx.2 hx.1 y hy, Nat.lt_trans (hdep x hx.2 y hy) hx.2⟩) ops.size (depsOf ops i) (fun y hy => by
      simp only [Bool.and_eq_true, decide_eq_true_eq]
      exact ⟨hd y hy, Nat.lt_trans (hdep i hi y hy) hi⟩) j hj
    simp only [Bool.and_eq_true] at key
    exact key.1
  unfold nmOk at h3
  simp only [Bool.and_eq_true, List.all_eq_true, List.mem_range] at h3
  obtain ⟨h3a, h3b⟩ := h3
  unfold rdOk at h2
  simp only [List.all_eq_true, List.mem_range] at h2
  have hfin := wpAny_float (P := P) (ops := ops) (Q := Q) (m := m) hf hm (fun L a w => Sat E kp n (S L) a w ∧ DC L) ?step ?fin m (Array.replicate ops.size false) a w.drew (by simp) (fun i _ hi => by
      rw [Array.getD_eq_getD_getElem?, Array.getElem?_replicate, if_pos hi]; rfl) (fun i hi => by
      rw [Array.getD_eq_getD_getElem?, Array.getElem?_replicate] at hi; split at hi <;> simp at hi) (unlisted_none _ _ hm) ⟨?start, fun i hi hL => by
      simp only [Array.getD_eq_getD_getElem?, Array.getElem?_replicate] at hL
      rw [if_pos (by omega)] at hL; simp at hL⟩
  case start =>
    obtain ⟨φ, Pub, I, h0, hn, hsl⟩ := hsat
    have : Sat E kp n base a w.drew := ⟨φ, Pub, I.drew, h0, hn, fun s => RA_mono adv_drew _ _ (fun _ _ => rfl) (hsl s)⟩
    refine this.congr (fun s => ?_) (fun r => ?_)
    · show look AV.any (selSl _ 0 effs ++ base.slots) s = _
      rw [look_sel _ _ _ _ _ h1]
      cases hk : maker s 0 effs with
      | none => rfl
      | some p =>
        obtain ⟨j, v⟩ := p
        have := (maker_ge hk).2.1
        simp only
        rw [if_neg]
        simp only [Array.getD_eq_getD_getElem?, Array.getElem?_replicate]
        rw [if_pos (by omega)]; simp
    · show look OB.dead (selHp _ 0 effs ++ base.heap) r = _
      rw [look_selH _ _ _ _ _ h1]
      cases hk : hmaker r 0 effs with
      | none => rfl
      | some p =>
        obtain ⟨j, v⟩ := p
        have := (hmaker_ge hk).2.1
        simp only
        rw [if_neg]
        simp only [Array.getD_eq_getD_getElem?, Array.getElem?_replicate]
        rw [if_pos (by omega)]; simp
  case fin =>
    intro L a w hall ⟨hS, _⟩
    obtain ⟨e1, e2⟩ := sel_all L effs 0 (fun j _ hj => hall j (by omega))
    have hS' : Sat E kp n ⟨allSl effs ++ base.slots, allHp effs ++ base.heap⟩ a w := by rw [← e1, ← e2]; exact hS
    exact k a w hS'
  case step =>
    intro L a w i o K hi ho hLi hd ⟨hS, hDC⟩ hK
    obtain ⟨e, he⟩ : ∃ e, effs[i]? = some e := ⟨_, List.getElem?_eq_getElem (by omega)⟩
    have hdL : ∀ j ∈ depsOf ops i, L j = true := fun j hj => by
      unfold depsOf at hj
      rw [ho] at hj
      simp only [Option.map_some, Option.getD_some] at hj
      rw [List.mem_map] at hj
      obtain ⟨x, hx, rfl⟩ := hj
      rw [List.mem_filter] at hx
      obtain ⟨y, hy, hy2⟩ := Array.mem_iff_getElem.1 (Array.mem_def.2 hx.1)
      rw [Array.all_eq_true] at hd
      have := hd y hy
      rw [hy2] at this
      simp only [Bool.or_eq_true, Bool.not_eq_true'] at this
      rcases this with h5 | h5
      · rw [hx.2] at h5; cases h5
      · exact h5
    have hC := hcl L hDC i hi hdL
    have hnot : ∀ x, x < m → L x = true → i ∉ clos ops x := fun x hx hLx hmem => by
      have := hcl L hDC x hx (hDC x hx hLx) i hmem
      rw [hLi] at this; cases this
    have hstep := hs i e he o ho (S L) (fun s v hrd hkn => ?_) (fun r ob hkn => ?_) (freeAll_mk fun p hp => ?_)
    · refine hstep a w K Q hS (fun a' w' hs' => hK a' w' ⟨hs'.congr (fun s => ?_) (fun r => ?_), fun x hx hLx y hy => ?_⟩)
      · show look AV.any (selSl (fun j => j == i || L j) 0 effs ++ base.slots) s = look AV.any (e.sl ++ (selSl L 0 effs ++ base.slots)) s
        rw [look_sl, look_sel _ _ _ _ _ h1, look_sel _ _ _ _ _ h1]
        cases hes : e.is s with
        | true =>
          rw [maker_mem h1 he hes 0, if_pos rfl]; simp
        | false =>
          rw [if_neg (by simp)]
          cases hk : maker s 0 effs with
          | none => rfl
          | some p =>
            obtain ⟨j, v⟩ := p
            simp only
            have hji : j ≠ i := fun e2 => by
              subst e2
              obtain ⟨_, _, e', h4, h5, _⟩ := maker_ge hk
              rw [Nat.sub_zero, he] at h4; cases h4; rw [hes] at h5; cases h5
            simp [hji]
      · show look OB.dead (selHp (fun j => j == i || L j) 0 effs ++ base.heap) r = look OB.dead (e.hp ++ (selHp L 0 effs ++ base.heap)) r
        rw [look_hp _ _ (once_hp_all h1 he), look_selH _ _ _ _ _ h1, look_selH _ _ _ _ _ h1]
        cases hes : (look OB.dead e.hp r).alive with
        | true =>
          rw [hmaker_mem h1 he hes 0, if_pos rfl]; simp
        | false =>
          rw [if_neg (by simp)]
          cases hk : hmaker r 0 effs with
          | none => rfl
          | some p =>
            obtain ⟨j, v⟩ := p
            simp only
            have hji : j ≠ i := fun e2 => by
              subst e2
              obtain ⟨_, _, e', h4, h5, _⟩ := hmaker_ge hk
              rw [Nat.sub_zero, he] at h4; cases h4; rw [hes] at h5; cases h5
            simp [hji]
      · simp only [Bool.or_eq_true, beq_iff_eq] at hLx ⊢
        rcases hLx with rfl | hLx
        · exact .inr (hdL y hy)
        · exact .inr (hDC x hx hLx y hy)
    · -- a slot that is read
      show look AV.any (selSl L 0 effs ++ base.slots) s = v
      rw [look_sel _ _ _ _ _ h1]
      unfold kn at hkn
      cases hk : maker s 0 (effs.take i) with
      | some p =>
        obtain ⟨j, v'⟩ := p
        rw [hk] at hkn
        simp only at hkn
        cases hj : memN j (depsOf ops i) with
        | false => rw [hj] at hkn; cases hkn
        | true =>
          rw [hj] at hkn; simp at hkn; subst hkn
          rw [maker_take hk]
          simp only
          rw [if_pos (hdL j (memN_iff.1 hj))]
      | none =>
        rw [hk] at hkn; simp at hkn; subst hkn
        cases hk2 : maker s 0 effs with
        | none => rfl
        | some p =>
          obtain ⟨j, v'⟩ := p
          have hge := maker_take_none hk hk2
          have hjm := (maker_ge hk2).2.1
          simp only
          rw [if_neg]
          intro hLj
          have := h2 i (by omega)
          rw [ho] at this
          simp only at this
          have := List.all_eq_true.1 this s (memN_iff.1 hrd)
          rw [hk2] at this
          simp only [Bool.or_eq_true] at this
          rcases this with h5 | h5
          · rw [Nat.blt_eq] at h5; omega
          · exact hnot j (by omega) hLj (memN_iff.1 h5)
    · show look OB.dead (selHp L 0 effs ++ base.heap) r = ob
      rw [look_selH _ _ _ _ _ h1]
      unfold knH at hkn
      cases hk : hmaker r 0 (effs.take i) with
      | some p =>
        obtain ⟨j, v'⟩ := p
        rw [hk] at hkn
        simp only at hkn
        cases hj : memN j (clos ops i) with
        | false => rw [hj] at hkn; cases hkn
        | true =>
          rw [hj] at hkn; simp at hkn; subst hkn
          rw [hmaker_take hk]
          simp only
          rw [if_pos (hC j (memN_iff.1 hj))]
      | none =>
        rw [hk] at hkn; simp only at hkn
        cases hal : (look OB.dead base.heap r).alive with
        | false => rw [hal] at hkn; cases hkn
        | true =>
          rw [hal] at hkn; simp at hkn; subst hkn
          cases hk2 : hmaker r 0 effs with
          | none => rfl
          | some p =>
            obtain ⟨j, v'⟩ := p
            obtain ⟨_, hjm, e', h4, h5, h6⟩ := hmaker_ge hk2
            have := freeAll_mem h3a (mem_allHp h4 (look_mem h5))
            have := (free_split this).1
            rw [hal] at this; cases this
    · -- a name is free
      have hb := free_split (freeAll_mem h3a (mem_allHp he hp))
      have hpa := look_all_alive (once_hp_all h1 he) hp
      have h3i := h3b i (by omega)
      rw [he] at h3i
      simp only [List.all_eq_true, List.mem_range] at h3i
      have hno : ∀ j e', effs[j]? = some e' → L j = true → e'.val.has p.1 = false ∧ hHas p.1 e'.hp = false := fun j e' hj hLj => by
        have hjm : j < effs.length := (List.getElem?_eq_some_iff.1 hj).1
        have := h3i p hp j hjm
        rw [hj] at this
        simp only [Bool.or_eq_true, Bool.and_eq_true, Bool.not_eq_true'] at this
        rcases this with h5 | h5 | h5
        · have := Nat.eq_of_beq_eq_true h5; subst this; rw [hLi] at hLj; cases hLj
        · exact h5
        · exact absurd (memN_iff.1 h5) (hnot j (by omega) hLj)
      refine free_mk ?_ ?_ ?_ hb.2.2.2
      · show (look OB.dead (selHp L 0 effs ++ base.heap) p.1).alive = false
        rw [look_selH _ _ _ _ _ h1, hmaker_mem h1 he hpa 0]
        simp only [Nat.zero_add]
        rw [if_neg (by rw [hLi]; simp)]; exact hb.1
      · show hHas p.1 (selHp L 0 effs ++ base.heap) = false
        rw [hHas_append, hb.2.1, hHas_sel _ _ _ _ (fun j e' hj hLj => (hno j e' hj (by simpa using hLj)).2)]; rfl
      · show sHas p.1 (selSl L 0 effs ++ base.slots) = false
        rw [sHas_append, hb.2.2.1, sHas_sel _ _ _ _ (fun j e' hj hLj => (hno j e' hj (by simpa using hLj)).1)]; rfl
  rw [show m + (ops.size - m) = ops.size from by omega] at hfin
  exact wp_region_any hx hfin

/-- Behind the first ones: the one that alone may come. -/
theorem AD.one {i fuel : Nat} {o : Oper} {listed : Array Bool} (hr : Region.ready .any ops listed = [i]) (hi : ops[i]? = some o) (h : Step P E kp n ops o st st') (k : AD P E kp n ops Q fuel (listed.setIfInBounds i true) st') : AD P E kp n ops Q (fuel + 1) listed st := by
  intro a w hs
  refine ⟨(fun h0 => by rw [hr] at h0; cases h0), fun j hj => ?_⟩
  rw [hr] at hj
  simp at hj; subst hj
  exact wpOp_step hi fun K hK => h a w K Q hs fun a' w' hs' => hK _ _ (k a' w' hs')
theorem AD.nil {fuel : Nat} {listed : Array Bool} (hr : Region.ready .any ops listed = []) (h : To E kp n Q .normal st) : AD P E kp n ops Q fuel listed st := by
  intro a w hs
  cases fuel with
  | zero => exact ⟨hr, h a w hs⟩
  | succ f => exact ⟨fun _ => h a w hs, fun i hi => by rw [hr] at hi; cases hi⟩
end
end Go.Proofs.Ytnopdnclefopbaa
