/- A region that draws its order, with one late operation: it may come early, or beside the stores. It names no function of the program. -/
import Derived.Test.YtnopdnclefopbaaAbsCopy
namespace Go.Proofs.Ytnopdnclefopbaa
open Go.RowKit
set_option linter.unusedVariables false
set_option linter.unusedSimpArgs false

/-- The first l + 1 operations hang on earlier ones alone; each one behind them comes behind the first l. -/
def floatL (ops : Array Oper) (l : Nat) : Bool :=
  (List.range (l + 1)).all (fun i => ((ops[i]?).map fun o => o.after.all fun e => !Region.binds .any e || decide (e.on < i)).getD false) &&
  (List.range ops.size).all (fun i => decide (i < l + 1) || (List.range l).all fun j => (closeN ops l (depsOf ops i)).contains j)
section
variable {P : Program} {ops : Array Oper} {Q : Exit → Act → World → Prop}
theorem wpAny_late {l m : Nat} (hlm : l + 1 = m) (hf : floatL ops l = true) (hm : m ≤ ops.size) (Inv : (Nat → Bool) → Act → World → Prop)
    (step : ∀ (L : Nat → Bool) a w i o (K : Act → World → Prop), i < m → ops[i]? = some o → L i = false → (o.after.all fun e => !Region.binds .any e || L e.on) = true → Inv L a w →
      (∀ a w, Inv (fun j => j == i || L j) a w → K a w) → if Region.wanted o (yielded ops a.tmps) = true then Oper.wp P o a w K Q else K (a.put o.dst undef) w)
    (fin : ∀ L a w, (∀ i, i < l → L i = true) → Inv L a w → (L l = true → wpAny P .any ops Q (ops.size - m) (firstM ops.size m) a w) ∧ (L l = false → wpAny P .any ops Q (ops.size - m + 1) (firstM ops.size l) a w)) :
    ∀ (f : Nat) (L : Array Bool) (a : Act) (w : World), L.size = ops.size → (∀ i, m ≤ i → i < ops.size → L.getD i true = false) → (∀ i, L.getD i false = true → ∀ j ∈ depsOf ops i, L.getD j false = true) → unlisted L m = f → Inv (fun i => L.getD i true) a w →
      wpAny P .any ops Q (f + (ops.size - m)) L a w := by
  unfold floatL at hf
  rw [hlm] at hf
  simp only [Bool.and_eq_true, List.all_eq_true, List.mem_range] at hf
  obtain ⟨hlow, hhigh⟩ := hf
  intro f
  induction f with
  | zero =>
    intro L a w hs hh hdc hu hI
    have hall : ∀ i, i < m → L.getD i true = true := by
      intro i hi
      have h0 : (List.range m).filter (fun i => !L.getD i true) = [] := List.length_eq_zero_iff.1 hu
      rw [List.filter_eq_nil_iff] at h0
      simpa using h0 i (List.mem_range.2 hi)
    have hL : L = firstM ops.size m := by
      apply Array.ext
      · simp [firstM, hs]
      · intro i h1 h2
        have hi : i < ops.size := by omega
        simp only [firstM, Array.getElem_map, Array.getElem_range]
        by_cases h : i < m
        · have := hall i h; rw [Array.getD_eq_getD_getElem?, Array.getElem?_eq_getElem h1] at this; simpa [h] using this
        · have := hh i (by omega) hi; rw [Array.getD_eq_getD_getElem?, Array.getElem?_eq_getElem h1] at this; simpa [h] using this
    rw [Nat.zero_add, hL]
    exact (fin _ a w (fun i hi => hall i (by omega)) hI).1 (hall l (by omega))
  | succ f ih =>
    intro L a w hs hh hdc hu hI
    rw [show f + 1 + (ops.size - m) = (f + (ops.size - m)) + 1 from by omega]
    by_cases hex : ∃ i, i < l ∧ L.getD i true = false
    case neg =>
      have hall : ∀ i, i < l → L.getD i true = true := fun i hi => by
        cases h : L.getD i true with
        | true => rfl
        | false => exact absurd ⟨i, hi, h⟩ hex
      have h0 : (List.range l).filter (fun i => !L.getD i true) = [] := by
        rw [List.filter_eq_nil_iff]; intro i hi; rw [hall i (List.mem_range.1 hi)]; simp
      unfold unlisted at hu
      rw [← hlm, List.range_succ, List.filter_append, h0, List.nil_append] at hu
      cases hl : L.getD l true with
      | true => rw [List.filter_cons, hl] at hu; simp at hu
      | false =>
        rw [List.filter_cons, hl] at hu
        simp at hu
        have hL : L = firstM ops.size l := by
          apply Array.ext
          · simp [firstM, hs]
          · intro i h1 h2
            have hi : i < ops.size := by omega
            simp only [firstM, Array.getElem_map, Array.getElem_range]
            by_cases h : i < l
            · have := hall i h; rw [Array.getD_eq_getD_getElem?, Array.getElem?_eq_getElem h1] at this; simpa [h] using this
            · by_cases h3 : i = l
              · subst h3; rw [Array.getD_eq_getD_getElem?, Array.getElem?_eq_getElem h1] at hl; simpa using hl
              · have := hh i (by omega) hi; rw [Array.getD_eq_getD_getElem?, Array.getElem?_eq_getElem h1] at this; simpa [h] using this
        subst hu
        have hfin := (fin _ a w hall hI).2 hl
        rw [hL, Nat.zero_add]; exact hfin
    case pos =>
      have hready : Region.ready .any ops L ≠ [] := by
        -- the least one
        have hmin : ∀ n i, i ≤ n → i < l → L.getD i true = false → ∃ k, k < l ∧ L.getD k true = false ∧ ∀ j, j < k → L.getD j true = true := by
          intro n
          induction n with
          | zero => intro i h0 h1 h2; exact ⟨i, h1, h2, fun j hj => by omega⟩
          | succ n ihn =>
            intro i h0 h1 h2
            by_cases hq : ∃ j, j < i ∧ L.getD j true = false
            · obtain ⟨j, hj, hj2⟩ := hq; exact ihn j (by omega) (by omega) hj2
            · refine ⟨i, h1, h2, fun j hj => ?_⟩
              cases h : L.getD j true with
              | true => rfl
              | false => exact absurd ⟨j, hj, h⟩ hq
        obtain ⟨i, hi, hi2⟩ := hex
        obtain ⟨k, hk, hk2, hk3⟩ := hmin i i (Nat.le_refl _) hi hi2
        have : k ∈ Region.ready .any ops L := by
          unfold Region.ready
          rw [List.mem_filter]
          refine ⟨List.mem_range.2 (by omega), ?_⟩
          rw [hk2]
          have h1 := hlow k (by omega)
          cases ho : ops[k]? with
          | none => rw [ho] at h1; simp at h1
          | some o =>
            rw [ho] at h1
            simp only [Option.map_some, Option.getD_some, Bool.not_false, Bool.true_and, Array.all_eq_true] at h1 ⊢
            intro e he
            have h2 := h1 e he
            simp only [Bool.or_eq_true, Bool.not_eq_true', decide_eq_true_eq] at h2 ⊢
            rcases h2 with h2 | h2
            · exact .inl h2
            · refine .inr ?_
              have h3 := hk3 _ h2
              have h4 : (o.after[e]).on < L.size := by omega
              rw [Array.getD_eq_getD_getElem?, Array.getElem?_eq_getElem h4] at h3 ⊢
              simpa using h3
        intro h; rw [h] at this; cases this
      refine ⟨fun h => absurd h hready, fun i hi => ?_⟩
      unfold Region.ready at hi
      rw [List.mem_filter] at hi
      obtain ⟨hi1, hi2⟩ := hi
      have hi1 := List.mem_range.1 hi1
      simp only [Bool.and_eq_true, Bool.not_eq_true'] at hi2
      obtain ⟨hi2, hi3⟩ := hi2
      have hready2 : ∀ j ∈ depsOf ops i, L.getD j false = true := by
        unfold depsOf
        cases ho : ops[i]? with
        | none => simp
        | some o =>
          rw [ho] at hi3
          simp only [Option.map_some, Option.getD_some, Array.all_eq_true, Bool.or_eq_true, Bool.not_eq_true'] at hi3 ⊢
          intro j hj
          rw [List.mem_map] at hj
          obtain ⟨e, he, rfl⟩ := hj
          rw [List.mem_filter] at he
          obtain ⟨x, hx, hx2⟩ := Array.mem_iff_getElem.1 (Array.mem_def.2 he.1)
          rcases hi3 x hx with h2 | h2
          · rw [hx2, he.2] at h2; cases h2
          · rw [hx2] at h2; exact h2
      have him : i < m := by
        refine Classical.byContradiction fun hn => ?_
        obtain ⟨k, hk, hk2⟩ := hex
        have h1 := hhigh i hi1
        simp only [Bool.or_eq_true, decide_eq_true_eq, hn, false_or, List.all_eq_true, List.mem_range] at h1
        have h2 := closeN_listed hdc l (depsOf ops i) hready2 k (List.contains_iff_mem.1 (h1 k hk))
        have h4 : k < L.size := by omega
        rw [Array.getD_eq_getD_getElem?, Array.getElem?_eq_getElem h4] at h2 hk2
        simp at h2 hk2; rw [h2] at hk2; cases hk2
      cases ho : ops[i]? with
      | none => rw [ho] at hi3; simp at hi3
      | some o =>
        refine wpOp_step ho fun K' hK' => ?_
        rw [ho] at hi3
        have hd : (o.after.all fun e => !Region.binds .any e || L.getD e.on true) = true := by
          simp only [Option.map_some, Option.getD_some, Array.all_eq_true, Bool.or_eq_true, Bool.not_eq_true'] at hi3 ⊢
          intro e he
          rcases hi3 e he with h2 | h2
          · exact .inl h2
          · refine .inr ?_
            rw [Array.getD_eq_getD_getElem?] at h2 ⊢
            cases h5 : L[o.after[e].on]? with
            | none => rw [h5] at h2; simp at h2
            | some b => rw [h5] at h2; simpa using h2
        refine step _ a w i o K' him ho hi2 hd hI fun a' w' hI' => hK' a' w' (ih _ a' w' (by simp [hs]) ?_ ?_ ?_ ?_)
        · intro j hj hj2
          rw [Array.getD_eq_getD_getElem?, Array.getElem?_setIfInBounds, if_neg (by omega), ← Array.getD_eq_getD_getElem?]
          exact hh j hj hj2
        · intro k hk j hj
          have hmon : ∀ j, L.getD j false = true → (L.setIfInBounds i true).getD j false = true := fun j h => by
            simp only [Array.getD_eq_getD_getElem?, Array.getElem?_setIfInBounds] at h ⊢
            by_cases h1 : i = j
            · subst h1; simp [show i < L.size by omega]
            · rw [if_neg h1]; exact h
          by_cases h1 : i = k
          · subst h1; exact hmon j (hready2 j hj)
          · refine hmon j (hdc k ?_ j hj)
            simp only [Array.getD_eq_getD_getElem?, Array.getElem?_setIfInBounds, if_neg h1] at hk ⊢; exact hk
        · have := unlisted_set L m i him (by omega) hi2; omega
        · have e : (fun j => (L.setIfInBounds i true).getD j true) = (fun j => j == i || L.getD j true) := by
            funext j
            simp only [Array.getD_eq_getD_getElem?, Array.getElem?_setIfInBounds]
            by_cases h : i = j
            · subst h; simp [show i < L.size by omega]
            · simp [h, Ne.symm h]
          rw [e]; exact hI'

end
theorem sel_most (L : Nat → Bool) : ∀ (es : List Eff) (i l : Nat), es.length = l + 1 → (∀ j, i ≤ j → j < i + l → L j = true) → L (i + l) = false → selSl L i es = allSl (es.take l) ∧ selHp L i es = allHp (es.take l)
  | [], i, l, h, _, _ => by simp at h
  | e :: es, i, 0, h, _, h0 => by
    have : es = [] := List.eq_nil_of_length_eq_zero (by simpa using h)
    subst this
    rw [Nat.add_zero] at h0
    simp [selSl, selHp, allSl, allHp, h0]
  | e :: es, i, l + 1, h, h1, h0 => by
    obtain ⟨k1, k2⟩ := sel_most L es (i + 1) l (by simpa using h) (fun j hj hj2 => h1 j (by omega) (by omega)) (by rw [show i + 1 + l = i + (l + 1) from by omega]; exact h0)
    simp only [selSl, selHp, allSl, allHp, List.take_succ_cons]
    rw [if_pos (h1 i (Nat.le_refl _) (by omega)), if_pos (h1 i (Nat.le_refl _) (by omega)), k1, k2]
    exact ⟨rfl, rfl⟩
inductive InsL {α : Type} (d : Nat) (x : α) : List (Nat × α) → List (Nat × α) → Prop where
  | here {s : List (Nat × α)} : InsL d x s ((d, x) :: s)
  | there {k : Nat} {y : α} {s s2 : List (Nat × α)} (hk : Nat.beq k d = false) (h : InsL d x s s2) : InsL d x ((k, y) :: s) ((k, y) :: s2)
section
variable {P : Program} {E : Env} {kp : List Nat} {n : Nat} {ops : Array Oper} {Q : Exit → Act → World → Prop} {base st st' : AS}
theorem AF.late {effs : List Eff} {id m : Nat} (l : Nat) (hlm : l + 1 = m) (hx : P.follows .mixedOrders = true) (hlen : effs.length = m) (hf : floatL ops l = true) (hmn : decide (m ≤ ops.size) = true) (h1 : once effs = true) (h2 : rdOk ops effs = true) (h3 : nmOk ops effs base kp = true)
    (k : AD P E kp n ops Q (ops.size - m + 1) (firstM ops.size l) ⟨allSl (effs.take l) ++ base.slots, allHp (effs.take l) ++ base.heap⟩ ∧ AD P E kp n ops Q (ops.size - m) (firstM ops.size m) ⟨allSl effs ++ base.slots, allHp effs ++ base.heap⟩) : AF P E kp n ops base effs (AW P E kp n (.region id ops true) Q base) := by
  intro hs a w hsat
  have hm := of_decide_eq_true hmn
  have hf' := hf
  unfold floatL at hf'
  simp only [Bool.and_eq_true, List.all_eq_true, List.mem_range] at hf'
  obtain ⟨hlow, _⟩ := hf'
  have hdep : ∀ i, i < m → ∀ j ∈ depsOf ops i, j < i := fun i hi j hj => by
    have h0 := hlow i (by omega)
    unfold depsOf at hj
    cases ho : ops[i]? with
    | none => rw [ho] at hj; simp at hj
    | some o =>
      rw [ho] at h0 hj
      simp only [Option.map_some, Option.getD_some, Array.all_eq_true] at h0 hj
      rw [List.mem_map] at hj
      obtain ⟨e, he, rfl⟩ := hj
      rw [List.mem_filter] at he
      obtain ⟨x, hx, hx2⟩ := Array.mem_iff_getElem.1 (Array.mem_def.2 he.1)
      have := h0 x hx
      rw [hx2] at this
      simp only [Bool.or_eq_true, Bool.not_eq_true', decide_eq_true_eq] at this
      rcases this with h5 | h5
      · rw [he.2] at h5; cases h5
      · exact h5
  let S : (Nat → Bool) → AS := fun L => ⟨selSl L 0 effs ++ base.slots, selHp L 0 effs ++ base.heap⟩
  let DC : (Nat → Bool) → Prop := fun L => ∀ i, i < m → L i = true → ∀ j ∈ depsOf ops i, L j = true
  have hcl : ∀ L, DC L → ∀ i, i < m → (∀ j ∈ depsOf ops i, L j = true) → ∀ j ∈ clos ops i, L j = true := fun L hDC i hi hd j hj => by
    have key := closeN_in (ops := ops) (L := fun x => L x && decide (x < m)) (fun x hx y hy => by
      simp only [Bool.and_eq_true, decide_eq_true_eq] at hx ⊢
      exact ⟨hDC x hx.2 hx.1 y hy, Nat.lt_trans (hdep x hx.2 y hy) hx.2⟩) ops.size (depsOf ops i) (fun y hy => by
      simp only [Bool.and_eq_true, decide_eq_true_eq]
      exact ⟨hd y hy, Nat.lt_trans (hdep i hi y hy) hi⟩) j hj
    simp only [Bool.and_eq_true] at key
    exact key.1
  unfold nmOk at h3
  simp only [Bool.and_eq_true, List.all_eq_true, List.mem_range] at h3
  obtain ⟨h3a, h3b⟩ := h3
  unfold rdOk at h2
  simp only [List.all_eq_true, List.mem_range] at h2
  have hfin := wpAny_late (P := P) (ops := ops) (Q := Q) (m := m) hlm hf hm (fun L a w => Sat E kp n (S L) a w ∧ DC L) ?step ?fin m (Array.replicate ops.size false) a w.drew (by simp) (fun i _ hi => by
      rw [Array.getD_eq_getD_getElem?, Array.getElem?_replicate, if_pos hi]; rfl) (fun i hi => by
      rw [Array.getD_eq_getD_getElem?, Array.getElem?_replicate] at hi; split at hi <;> simp at hi) (unlisted_none _ _ hm) ⟨?start, fun i hi hL => by
      simp only [Array.getD_eq_getD_getElem?, Array.getElem?_replicate] at hL
      rw [if_pos (by omega)] at hL; simp at hL⟩
  case start =>
    obtain ⟨φ, Pub, I, h0, hn, hsl⟩ := hsat
    have : Sat E kp n base a w.drew := ⟨φ, Pub, I.drew, h0, hn, fun s => RA_mono adv_drew _ _ (fun _ _ => rfl) (hsl s)⟩
    refine this.congr (fun s => ?_) (fun r => ?_)
    · show look AV.any (selSl _ 0 effs ++ base.slots) s = _
      rw [look_sel _ _ _ _ _ h1]
      cases hk : maker s 0 effs with
      | none => rfl
      | some p =>
        obtain ⟨j, v⟩ := p
        have := (maker_ge hk).2.1
        simp only
        rw [if_neg]
        simp only [Array.getD_eq_getD_getElem?, Array.getElem?_replicate]
        rw [if_pos (by omega)]; simp
    · show look OB.dead (selHp _ 0 effs ++ base.heap) r = _
      rw [look_selH _ _ _ _ _ h1]
      cases hk : hmaker r 0 effs with
      | none => rfl
      | some p =>
        obtain ⟨j, v⟩ := p
        have := (hmaker_ge hk).2.1
        simp only
        rw [if_neg]
        simp only [Array.getD_eq_getD_getElem?, Array.getElem?_replicate]
        rw [if_pos (by omega)]; simp
  case fin =>
    intro L a w hall ⟨hS, _⟩
    refine ⟨fun hl => ?_, fun hl => ?_⟩
    · obtain ⟨e1, e2⟩ := sel_all L effs 0 (fun j _ hj => by
        by_cases h : j < l
        · exact hall j h
        · rw [show j = l from by omega]; exact hl)
      have hS' : Sat E kp n ⟨allSl effs ++ base.slots, allHp effs ++ base.heap⟩ a w := by rw [← e1, ← e2]; exact hS
      exact k.2 a w hS'
    · obtain ⟨e1, e2⟩ := sel_most L effs 0 l (by omega) (fun j _ hj => hall j (by omega)) (by rw [Nat.zero_add]; exact hl)
      have hS' : Sat E kp n ⟨allSl (effs.take l) ++ base.slots, allHp (effs.take l) ++ base.heap⟩ a w := by rw [← e1, ← e2]; exact hS
      exact k.1 a w hS'
  case step =>
    intro L a w i o K hi ho hLi hd ⟨hS, hDC⟩ hK
    obtain ⟨e, he⟩ : ∃ e, effs[i]? = some e := ⟨_, List.getElem?_eq_getElem (by omega)⟩
    have hdL : ∀ j ∈ depsOf ops i, L j = true := fun j hj => by
      unfold depsOf at hj
      rw [ho] at hj
      simp only [Option.map_some, Option.getD_some] at hj
      rw [List.mem_map] at hj
      obtain ⟨x, hx, rfl⟩ := hj
      rw [List.mem_filter] at hx
      obtain ⟨y, hy, hy2⟩ := Array.mem_iff_getElem.1 (Array.mem_def.2 hx.1)
      rw [Array.all_eq_true] at hd
      have := hd y hy
      rw [hy2] at this
      simp only [Bool.or_eq_true, Bool.not_eq_true'] at this
      rcases this with h5 | h5
      · rw [hx.2] at h5; cases h5
      · exact h5
    have hC := hcl L hDC i hi hdL
    have hnot : ∀ x, x < m → L x = true → i ∉ clos ops x := fun x hx hLx hmem => by
      have := hcl L hDC x hx (hDC x hx hLx) i hmem
      rw [hLi] at this; cases this
    have hstep := hs i e he o ho (S L) (fun s v hrd hkn => ?_) (fun r ob hkn => ?_) (freeAll_mk fun p hp => ?_)
    · refine hstep a w K Q hS (fun a' w' hs' => hK a' w' ⟨hs'.congr (fun s => ?_) (fun r => ?_), fun x hx hLx y hy => ?_⟩)
      · show look AV.any (selSl (fun j => j == i || L j) 0 effs ++ base.slots) s = look AV.any (e.sl ++ (selSl L 0 effs ++ base.slots)) s
        rw [look_sl, look_sel _ _ _ _ _ h1, look_sel _ _ _ _ _ h1]
        cases hes : e.is s with
        | true =>
          rw [maker_mem h1 he hes 0, if_pos rfl]; simp
        | false =>
          rw [if_neg (by simp)]
          cases hk : maker s 0 effs with
          | none => rfl
          | some p =>
            obtain ⟨j, v⟩ := p
            simp only
            have hji : j ≠ i := fun e2 => by
              subst e2
              obtain ⟨_, _, e', h4, h5, _⟩ := maker_ge hk
              rw [Nat.sub_zero, he] at h4; cases h4; rw [hes] at h5; cases h5
            simp [hji]
      · show look OB.dead (selHp (fun j => j == i || L j) 0 effs ++ base.heap) r = look OB.dead (e.hp ++ (selHp L 0 effs ++ base.heap)) r
        rw [look_hp _ _ (once_hp_all h1 he), look_selH _ _ _ _ _ h1, look_selH _ _ _ _ _ h1]
        cases hes : (look OB.dead e.hp r).alive with
        | true =>
          rw [hmaker_mem h1 he hes 0, if_pos rfl]; simp
        | false =>
          rw [if_neg (by simp)]
          cases hk : hmaker r 0 effs with
          | none => rfl
          | some p =>
            obtain ⟨j, v⟩ := p
            simp only
            have hji : j ≠ i := fun e2 => by
              subst e2
              obtain ⟨_, _, e', h4, h5, _⟩ := hmaker_ge hk
              rw [Nat.sub_zero, he] at h4; cases h4; rw [hes] at h5; cases h5
            simp [hji]
      · simp only [Bool.or_eq_true, beq_iff_eq] at hLx ⊢
        rcases hLx with rfl | hLx
        · exact .inr (hdL y hy)
        · exact .inr (hDC x hx hLx y hy)
    · -- a slot that is read
      show look AV.any (selSl L 0 effs ++ base.slots) s = v
      rw [look_sel _ _ _ _ _ h1]
      unfold kn at hkn
      cases hk : maker s 0 (effs.take i) with
      | some p =>
        obtain ⟨j, v'⟩ := p
        rw [hk] at hkn
        simp only at hkn
        cases hj : memN j (depsOf ops i) with
        | false => rw [hj] at hkn; cases hkn
        | true =>
          rw [hj] at hkn; simp at hkn; subst hkn
          rw [maker_take hk]
          simp only
          rw [if_pos (hdL j (memN_iff.1 hj))]
      | none =>
        rw [hk] at hkn; simp at hkn; subst hkn
        cases hk2 : maker s 0 effs with
        | none => rfl
        | some p =>
          obtain ⟨j, v'⟩ := p
          have hge := maker_take_none hk hk2
          have hjm := (maker_ge hk2).2.1
          simp only
          rw [if_neg]
          intro hLj
          have := h2 i (by omega)
          rw [ho] at this
          simp only at this
          have := List.all_eq_true.1 this s (memN_iff.1 hrd)
          rw [hk2] at this
          simp only [Bool.or_eq_true] at this
          rcases this with h5 | h5
          · rw [Nat.blt_eq] at h5; omega
          · exact hnot j (by omega) hLj (memN_iff.1 h5)
    · show look OB.dead (selHp L 0 effs ++ base.heap) r = ob
      rw [look_selH _ _ _ _ _ h1]
      unfold knH at hkn
      cases hk : hmaker r 0 (effs.take i) with
      | some p =>
        obtain ⟨j, v'⟩ := p
        rw [hk] at hkn
        simp only at hkn
        cases hj : memN j (clos ops i) with
        | false => rw [hj] at hkn; cases hkn
        | true =>
          rw [hj] at hkn; simp at hkn; subst hkn
          rw [hmaker_take hk]
          simp only
          rw [if_pos (hC j (memN_iff.1 hj))]
      | none =>
        rw [hk] at hkn; simp only at hkn
        cases hal : (look OB.dead base.heap r).alive with
        | false => rw [hal] at hkn; cases hkn
        | true =>
          rw [hal] at hkn; simp at hkn; subst hkn
          cases hk2 : hmaker r 0 effs with
          | none => rfl
          | some p =>
            obtain ⟨j, v'⟩ := p
            obtain ⟨_, hjm, e', h4, h5, h6⟩ := hmaker_ge hk2
            have := freeAll_mem h3a (mem_allHp h4 (look_mem h5))
            have := (free_split this).1
            rw [hal] at this; cases this
    · -- a name is free
      have hb := free_split (freeAll_mem h3a (mem_allHp he hp))
      have hpa := look_all_alive (once_hp_all h1 he) hp
      have h3i := h3b i (by omega)
      rw [he] at h3i
      simp only [List.all_eq_true, List.mem_range] at h3i
      have hno : ∀ j e', effs[j]? = some e' → L j = true → e'.val.has p.1 = false ∧ hHas p.1 e'.hp = false := fun j e' hj hLj => by
        have hjm : j < effs.length := (List.getElem?_eq_some_iff.1 hj).1
        have := h3i p hp j hjm
        rw [hj] at this
        simp only [Bool.or_eq_true, Bool.and_eq_true, Bool.not_eq_true'] at this
        rcases this with h5 | h5 | h5
        · have := Nat.eq_of_beq_eq_true h5; subst this; rw [hLi] at hLj; cases hLj
        · exact h5
        · exact absurd (memN_iff.1 h5) (hnot j (by omega) hLj)
      refine free_mk ?_ ?_ ?_ hb.2.2.2
      · show (look OB.dead (selHp L 0 effs ++ base.heap) p.1).alive = false
        rw [look_selH _ _ _ _ _ h1, hmaker_mem h1 he hpa 0]
        simp only [Nat.zero_add]
        rw [if_neg (by rw [hLi]; simp)]; exact hb.1
      · show hHas p.1 (selHp L 0 effs ++ base.heap) = false
        rw [hHas_append, hb.2.1, hHas_sel _ _ _ _ (fun j e' hj hLj => (hno j e' hj (by simpa using hLj)).2)]; rfl
      · show sHas p.1 (selSl L 0 effs ++ base.slots) = false
        rw [sHas_append, hb.2.2.1, sHas_sel _ _ _ _ (fun j e' hj hLj => (hno j e' hj (by simpa using hLj)).1)]; rfl
  rw [show m + (ops.size - m) = ops.size from by omega] at hfin
  exact wp_region_any hx hfin


/-- The list with an entry further behind. -/
theorem ins_look {α : Type} (d0 : α) {d : Nat} {x : α} {s s2 : List (Nat × α)} : InsL d x s s2 → ∀ q, look d0 s2 q = look d0 ((d, x) :: s) q := by
  intro h
  induction h with
  | here => intro q; rfl
  | there hk _ ih =>
    rename_i k y s s2 _
    intro q
    have hne : k ≠ d := fun e => by subst e; rw [Nat.beq_refl] at hk; cases hk
    rw [look_cons, ih q, look_cons, look_cons, look_cons]
    by_cases h1 : k = q
    · subst h1; rw [if_pos rfl, if_neg (fun e => hne e.symm), if_pos rfl]
    · rw [if_neg h1, if_neg h1]
theorem wk_ins {s s2 : List (Nat × AV)} {h h2 : List (Nat × OB)} {d r : Nat} {x : AV} {ob : OB} (k1 : InsL d x s s2) (k2 : InsL r ob h h2) : Wk E kp n ⟨(d, x) :: s, (r, ob) :: h⟩ ⟨s2, h2⟩ := fun a w hs => hs.congr (ins_look _ k1) (ins_look _ k2)
theorem AP.one (k i : Nat) {fuel : Nat} {o ok : Oper} {l1 l2 : Array Bool} {st1 st1' st2 st2' stk : AS} (hr1 : (Region.ready .any ops l1).all (fun j => Nat.beq j i || Nat.beq j k) = true) (hr3 : (Region.ready .any ops l1).isEmpty = false) (hr2 : Region.ready .any ops l2 = [i]) (hl : l1.setIfInBounds k true = l2) (hi : ops[i]? = some o) (hk : ops[k]? = some ok)
    (h1 : Step P E kp n ops o st1 st1') (h2 : Step P E kp n ops o st2 st2') (h3 : Step P E kp n ops ok st1 stk) (hw : Wk E kp n stk st2)
    (K : AD P E kp n ops Q (fuel + 1) (l1.setIfInBounds i true) st1' ∧ AD P E kp n ops Q fuel (l2.setIfInBounds i true) st2') : AD P E kp n ops Q (fuel + 2) l1 st1 ∧ AD P E kp n ops Q (fuel + 1) l2 st2 := by
  have second : AD P E kp n ops Q (fuel + 1) l2 st2 := AD.one hr2 hi h2 K.2
  refine ⟨fun a w hs => ⟨(fun h0 => by rw [h0] at hr3; cases hr3), fun j hj => ?_⟩, second⟩
  have hj2 := List.all_eq_true.1 hr1 j hj
  rw [Bool.or_eq_true] at hj2
  by_cases hji : j = i
  · subst hji
    exact wpOp_step hi fun K' hK => h1 a w K' Q hs fun a' w' hs' => hK _ _ (K.1 a' w' hs')
  · have hjk : j = k := by
      rcases hj2 with h | h
      · exact absurd (Nat.eq_of_beq_eq_true h) hji
      · exact Nat.eq_of_beq_eq_true h
    subst hjk
    exact wpOp_step hk fun K' hK => h3 a w K' Q hs fun a' w' hs' => hK _ _ (by rw [hl]; exact second a' w' (hw a' w' hs'))
theorem AP.last (k : Nat) {fuel : Nat} {ok : Oper} {l1 l2 : Array Bool} {st1 st2 stk : AS} (hr1 : Region.ready .any ops l1 = [k]) (hl : l1.setIfInBounds k true = l2) (hk : ops[k]? = some ok)
    (h3 : Step P E kp n ops ok st1 stk) (hw : Wk E kp n stk st2) (K : AD P E kp n ops Q fuel l2 st2) : AD P E kp n ops Q (fuel + 1) l1 st1 ∧ AD P E kp n ops Q fuel l2 st2 :=
  ⟨AD.one hr1 hk h3 (by rw [hl]; exact fun a w hs => K a w (hw a w hs)), K⟩
end
end Go.Proofs.Ytnopdnclefopbaa
