/- Regions that draw their order, over typed values: what each operation does is computed in the text's order; soundness. It names no function of the program. -/
import Derived.Test.YtnopdnclefopbaaTc
import Derived.Test.YtnopdnclefopbaaTf
namespace Go.Proofs.Ytnopdnclefopbaa
open Go.RowKit
set_option linter.unusedVariables false
set_option linter.unusedSimpArgs false

section
variable {P : Program} {E : Env} {kp : List Nat} {n : Nat} {ops : Array Oper}
/-- What is known of an operation, where its slots and blocks are as in cur. -/
structure EFok (P : Program) (E : Env) (kp : List Nat) (n : Nat) (ops : Array Oper) (cur : ES) (o : Oper) (e : EF) : Prop where
  step : ∀ st : ES, (∀ s ∈ e.rd, look EV.any st.slots s = look EV.any cur.slots s) → (∀ r ∈ e.tb, look EB.dead st.heap r = look EB.dead cur.heap r) → (∀ r ∈ e.nw, st.free kp r = true) → Step P E kp n ops o st.as (ES.as ⟨e.sl ++ st.slots, e.hp ++ st.heap⟩)
  new : ∀ r ∈ e.nw, cur.free kp r = true ∧ hasK r e.hp = true
  key : ∀ r, hasK r e.hp = true → r ∈ e.tb ∨ r ∈ e.nw
def allE (b : ES) (es : List EF) : ES := ⟨mixS (fun _ => true) b.slots es, mixH (fun _ => true) b.heap es⟩
def Good (P : Program) (E : Env) (kp : List Nat) (n : Nat) (ops : Array Oper) (ms : List Nat) (b : ES) : List EF → Prop
  | [] => True
  | e :: es => Good P E kp n ops ms b es ∧ (∀ o, ops[es.length]? = some o → EFok P E kp n ops (allE b es) o e) ∧ pairs (ms.getD es.length 0) e es.length es = true
theorem pairs_at {m : Nat} {f : EF} : ∀ {es : List EF}, pairs m f es.length es = true → ∀ k e, nthF k es = some e → tbit m k = true ∨ conf e f = false
  | [], _, k, e, hk => by cases hk
  | g :: es, h, k, e, hk => by
    simp only [List.length_cons, pairs, Bool.and_eq_true, Bool.or_eq_true, Bool.not_eq_true'] at h
    unfold nthF at hk
    split at hk
    · next e1 => cases hk; subst e1; exact h.1
    · exact pairs_at h.2 k e hk
theorem good_at {ms : List Nat} {b : ES} : ∀ {es : List EF}, Good P E kp n ops ms b es → ∀ i, i < es.length → ∃ e, nthF i es = some e ∧ (∀ o, ops[i]? = some o → EFok P E kp n ops (allE b (upto i es)) o e) ∧ ∀ k f, k < i → nthF k es = some f → tbit (ms.getD i 0) k = true ∨ conf f e = false
  | [], _, i, h => by simp at h
  | e :: es, hg, i, h => by
    obtain ⟨h1, h2, h3⟩ := hg
    by_cases hi : i = es.length
    · subst hi
      refine ⟨e, by simp [nthF], ?_, fun k f hk hn => ?_⟩
      · have : upto es.length (e :: es) = es := by unfold upto; rw [if_pos (Nat.le_refl _)]; exact upto_all es
        rw [this]; exact h2
      · unfold nthF at hn
        rw [if_neg (by omega)] at hn
        exact pairs_at h3 k f hn
    · simp only [List.length_cons] at h
      obtain ⟨f, k1, k2, k3⟩ := good_at h1 i (by omega)
      refine ⟨f, by unfold nthF; rw [if_neg hi]; exact k1, ?_, fun k g hk hn => ?_⟩
      · have : upto i (e :: es) = upto i es := by rw [upto, if_pos (by omega)]
        rw [this]; exact k2
      · unfold nthF at hn
        rw [if_neg (by omega)] at hn
        exact k3 k g hk hn
theorem mixS_none (b : List (Nat × EV)) : ∀ es : List EF, mixS (fun _ => false) b es = b
  | [] => rfl
  | e :: es => by unfold mixS; rw [if_neg (by simp)]; exact mixS_none b es
theorem mixH_none (b : List (Nat × EB)) : ∀ es : List EF, mixH (fun _ => false) b es = b
  | [] => rfl
  | e :: es => by unfold mixH; rw [if_neg (by simp)]; exact mixH_none b es
theorem ready_all (ops : Array Oper) : Region.ready .any ops (firstM ops.size ops.size) = [] := by
  unfold Region.ready
  rw [List.filter_eq_nil_iff]
  intro i hi
  have hi := List.mem_range.1 hi
  have : (firstM ops.size ops.size).getD i true = true := by
    unfold firstM
    rw [Array.getD_eq_getD_getElem?]
    simp [hi]
  rw [this]; simp
theorem floatB_of {ms : List Nat} (h : masksOk ops ms ops.size = true) : floatB ops ops.size = true := by
  unfold floatB
  simp only [Bool.and_eq_true, List.all_eq_true, List.mem_range]
  refine ⟨fun i hi => ?_, fun i hi => by simp [hi]⟩
  have h1 := (masksOk_at h hi).1
  have ho : ops[i]? = some ops[i] := Array.getElem?_eq_getElem hi
  rw [ho]
  simp only [Option.map_some, Option.getD_some, Array.all_eq_true, Bool.or_eq_true, Bool.not_eq_true', decide_eq_true_eq]
  intro x hx
  cases hb : Region.binds .any (ops[i].after[x]) with
  | false => exact .inl rfl
  | true =>
    refine .inr (h1 _ ?_)
    unfold depsOf
    rw [ho]
    simp only [Option.map_some, Option.getD_some, List.mem_map]
    exact ⟨_, List.mem_filter.2 ⟨Array.mem_def.1 (Array.getElem_mem hx), hb⟩, rfl⟩
/-- **Whoever is not ordered touches nothing of the other's: then the text's order serves.** -/
theorem float_ok {ms : List Nat} {b : ES} {es : List EF} {id : Nat} {Q : Exit → Act → World → Prop} (hx : P.follows .mixedOrders = true) (hms : masksOk ops ms ops.size = true) (hg : Good P E kp n ops ms b es) (hlen : es.length = ops.size)
    (hk : To E kp n Q .normal (allE b es).as) : AW P E kp n (.region id ops true) Q b.as := by
  intro a w hsat
  let S : (Nat → Bool) → ES := fun L => ⟨mixS L b.slots es, mixH L b.heap es⟩
  let DC : (Nat → Bool) → Prop := fun L => ∀ i, i < ops.size → L i = true → ∀ j ∈ depsOf ops i, L j = true
  have lookS : ∀ (X Y : ES), (∀ s, look EV.any X.slots s = look EV.any Y.slots s) → (∀ r, look EB.dead X.heap r = look EB.dead Y.heap r) → ∀ a w, Sat E kp n Y.as a w → Sat E kp n X.as a w := fun X Y h1 h2 a w h =>
    Sat.congr (fun s => by
      show look AV.any (avs X.slots) s = look AV.any (avs Y.slots) s
      rw [look_avs, look_avs, h1]) (fun r => by
      show look OB.dead (obs X.heap) r = look OB.dead (obs Y.heap) r
      rw [look_obs, look_obs, h2]) h
  have hfin := wpAny_float (P := P) (ops := ops) (Q := Q) (m := ops.size) (floatB_of hms) (Nat.le_refl _) (fun L a w => Sat E kp n (S L).as a w ∧ DC L) ?step ?fin ops.size (Array.replicate ops.size false) a w.drew (by simp) (fun i _ hi => by
      rw [Array.getD_eq_getD_getElem?, Array.getElem?_replicate, if_pos hi]; rfl) (fun i hi => by
      rw [Array.getD_eq_getD_getElem?, Array.getElem?_replicate] at hi; split at hi <;> simp at hi) (unlisted_none _ _ (Nat.le_refl _)) ⟨?start, fun i hi hL => by
      simp only [Array.getD_eq_getD_getElem?, Array.getElem?_replicate] at hL
      rw [if_pos (by omega)] at hL; simp at hL⟩
  case start =>
    obtain ⟨φ, Pub, I, h0, hn, hsl⟩ := hsat
    have h1 : Sat E kp n b.as a w.drew := ⟨φ, Pub, I.drew, h0, hn, fun s => RA_mono adv_drew _ _ (fun _ _ => rfl) (hsl s)⟩
    refine lookS _ b (fun s => ?_) (fun r => ?_) _ _ h1
    · have e := mixS_none b.slots es
      show look EV.any (mixS _ b.slots es) s = _
      rw [mixS_look (L' := fun _ => false) (fun k f hkf _ => ?_), e]
      have := nthF_lt hkf
      simp only [Array.getD_eq_getD_getElem?, Array.getElem?_replicate]
      rw [if_pos (by omega)]; simp
    · have e := mixH_none b.heap es
      show look EB.dead (mixH _ b.heap es) r = _
      rw [mixH_look (L' := fun _ => false) (fun k f hkf _ => ?_), e]
      have := nthF_lt hkf
      simp only [Array.getD_eq_getD_getElem?, Array.getElem?_replicate]
      rw [if_pos (by omega)]; simp
  case fin =>
    intro L a w hall ⟨hS, _⟩
    rw [Nat.sub_self]
    refine ⟨ready_all ops, hk a w (lookS _ (S L) (fun s => ?_) (fun r => ?_) _ _ hS)⟩
    · exact mixS_look (fun k f hkf _ => (hall k (by have := nthF_lt hkf; omega)).symm)
    · exact mixH_look (fun k f hkf _ => (hall k (by have := nthF_lt hkf; omega)).symm)
  case step =>
    intro L a w i o K hi ho hLi hd ⟨hS, hDC⟩ hK
    obtain ⟨e, he, hok, hpr⟩ := good_at hg i (by omega)
    have hok := hok o ho
    have hdL : ∀ j ∈ depsOf ops i, L j = true := fun j hj => by
      unfold depsOf at hj
      rw [ho] at hj
      simp only [Option.map_some, Option.getD_some] at hj
      rw [List.mem_map] at hj
      obtain ⟨x, hx, rfl⟩ := hj
      rw [List.mem_filter] at hx
      obtain ⟨y, hy, hy2⟩ := Array.mem_iff_getElem.1 (Array.mem_def.2 hx.1)
      rw [Array.all_eq_true] at hd
      have := hd y hy
      rw [hy2] at this
      simp only [Bool.or_eq_true, Bool.not_eq_true'] at this
      rcases this with h5 | h5
      · rw [hx.2] at h5; cases h5
      · exact h5
    have hC := mask_in hms hDC i hi hdL
    -- an earlier one that touches what i touches has been; a later one has not
    have early : ∀ k f, k < i → nthF k es = some f → conf f e = true → L k = true := fun k f hki hkf hc => by
      rcases hpr k f hki hkf with h5 | h5
      · exact hC k h5
      · rw [hc] at h5; cases h5
    have late : ∀ k f, i < k → nthF k es = some f → conf e f = true → L k = false := fun k f hki hkf hc => by
      cases hLk : L k with
      | false => rfl
      | true =>
        have hkm : k < ops.size := by have := nthF_lt hkf; omega
        obtain ⟨f', hf', _, hpr'⟩ := good_at hg k (by omega)
        rw [hkf] at hf'; cases hf'
        rcases hpr' i e hki he with h5 | h5
        · have := mask_in hms hDC k hkm (hDC k hkm hLk) i h5
          rw [hLi] at this; cases this
        · rw [hc] at h5; cases h5
    have uS : ∀ s, (∀ f : EF, hasK s f.sl = true → conf f e = true) → (∀ f : EF, hasK s f.sl = true → conf e f = true) → look EV.any (S L).slots s = look EV.any (allE b (upto i es)).slots s := fun s h1 h2 => by
      show look EV.any (mixS L b.slots es) s = look EV.any (mixS (fun _ => true) b.slots (upto i es)) s
      rw [← (mix_upto b.slots b.heap es).1]
      refine mixS_look fun k f hkf hs => ?_
      rcases Nat.lt_trichotomy k i with h5 | h5 | h5
      · rw [early k f h5 hkf (h1 f hs)]; simp [h5]
      · subst h5; rw [hLi]; simp
      · rw [late k f h5 hkf (h2 f hs)]; simp; omega
    have uH : ∀ r, (∀ f : EF, hasK r f.hp = true → conf f e = true) → (∀ f : EF, hasK r f.hp = true → conf e f = true) → look EB.dead (S L).heap r = look EB.dead (allE b (upto i es)).heap r := fun r h1 h2 => by
      show look EB.dead (mixH L b.heap es) r = look EB.dead (mixH (fun _ => true) b.heap (upto i es)) r
      rw [← (mix_upto b.slots b.heap es).2]
      refine mixH_look fun k f hkf hs => ?_
      rcases Nat.lt_trichotomy k i with h5 | h5 | h5
      · rw [early k f h5 hkf (h1 f hs)]; simp [h5]
      · subst h5; rw [hLi]; simp
      · rw [late k f h5 hkf (h2 f hs)]; simp; omega
    have hstep := hok.step (S L) (fun s hs => uS s (fun f hf => ?_) (fun f hf => ?_)) (fun r hr => uH r (fun f hf => ?_) (fun f hf => ?_)) (fun r hr => ?_)
    · refine hstep a w K Q hS (fun a' w' hs' => hK a' w' ⟨lookS _ _ (fun s => ?_) (fun r => ?_) _ _ hs', fun x hx hLx y hy => ?_⟩)
      · show look EV.any (mixS (fun j => j == i || L j) b.slots es) s = look EV.any (e.sl ++ mixS L b.slots es) s
        rw [look_app]
        cases hes : hasK s e.sl with
        | true =>
          rw [if_pos rfl]
          refine mixS_top hes he (by simp) fun k f hik hkf hs => ?_
          have := late k f hik hkf (by
            unfold conf; rw [anyK_of hes (by rw [hs]; simp)]; rfl)
          simp [this]; omega
        | false =>
          rw [if_neg (by simp)]
          refine mixS_look fun k f hkf hs => ?_
          have : k ≠ i := fun h5 => by subst h5; rw [he] at hkf; cases hkf; rw [hes] at hs; cases hs
          simp [this]
      · show look EB.dead (mixH (fun j => j == i || L j) b.heap es) r = look EB.dead (e.hp ++ mixH L b.heap es) r
        rw [look_app]
        cases hes : hasK r e.hp with
        | true =>
          rw [if_pos rfl]
          refine mixH_top hes he (by simp) fun k f hik hkf hs => ?_
          have := late k f hik hkf (by
            unfold conf; rw [anyK_of (f := fun r => memN r f.tb || hasK r f.hp) hes (by rw [hs]; simp)]; simp)
          simp [this]; omega
        | false =>
          rw [if_neg (by simp)]
          refine mixH_look fun k f hkf hs => ?_
          have : k ≠ i := fun h5 => by subst h5; rw [he] at hkf; cases hkf; rw [hes] at hs; cases hs
          simp [this]
      · simp only [Bool.or_eq_true, beq_iff_eq] at hLx ⊢
        rcases hLx with rfl | hLx
        · exact .inr (hdL y hy)
        · exact .inr (hDC x hx hLx y hy)
    · unfold conf; rw [anyK_of hf (by rw [memN_iff.2 hs]; rfl)]; rfl
    · unfold conf; rw [anyK_of (f := fun s => memN s e.rd) hf (memN_iff.2 hs)]; simp
    · unfold conf; rw [anyK_of (f := fun r => memN r e.tb || hasK r e.hp) hf (by rw [memN_iff.2 hr]; rfl)]; simp
    · unfold conf; rw [anyK_of (f := fun r => memN r e.tb) hf (memN_iff.2 hr)]; simp
    · obtain ⟨hfree, hkey⟩ := hok.new r hr
      have hl := uH r (fun f hf => by unfold conf; rw [anyK_of (f := fun r => memN r e.tb || hasK r e.hp) hf (by rw [hkey]; simp)]; simp) (fun f hf => by unfold conf; rw [anyK_of (f := fun r => memN r f.tb || hasK r f.hp) hkey (by rw [hf]; simp)]; simp)
      unfold ES.free at hfree ⊢
      simp only [Bool.and_eq_true, Bool.not_eq_true'] at hfree ⊢
      obtain ⟨⟨⟨f1, f2⟩, f3⟩, f4⟩ := hfree
      have e1 := (mix_upto (i := i) b.slots b.heap es).1
      have e2 := (mix_upto (i := i) b.slots b.heap es).2
      have f2 : hasH r (mixH (fun k => decide (k < i)) b.heap es) = false := by rw [e2]; exact f2
      have f3 : hasS r (mixS (fun k => decide (k < i)) b.slots es) = false := by rw [e1]; exact f3
      obtain ⟨g2, g2'⟩ := hasH_of_mix f2
      obtain ⟨g3, g3'⟩ := hasS_of_mix f3
      have hno : ∀ k f, nthF k es = some f → L k = true → hasH r f.hp = false ∧ hasS r f.sl = false := fun k f hkf hLk => by
        rcases Nat.lt_trichotomy k i with h5 | h5 | h5
        · exact ⟨g2' k f hkf (by simp [h5]), g3' k f hkf (by simp [h5])⟩
        · subst h5; rw [hLi] at hLk; cases hLk
        · have hc : conf e f = false := by
            cases hc : conf e f with
            | false => rfl
            | true => have := late k f h5 hkf hc; rw [hLk] at this; cases this
          unfold conf at hc
          simp only [Bool.or_eq_false_iff] at hc
          have h6 := hc.2.2.2.2
          constructor
          · cases hq : hasH r f.hp with
            | false => rfl
            | true =>
              have := anyN_of (f := fun r => hasS r f.sl || hasH r f.hp) hr (by rw [hq]; simp)
              rw [this] at h6; cases h6
          · cases hq : hasS r f.sl with
            | false => rfl
            | true =>
              have := anyN_of (f := fun r => hasS r f.sl || hasH r f.hp) hr (by rw [hq]; simp)
              rw [this] at h6; cases h6
      refine ⟨⟨⟨?_, hasH_mix g2 fun k f hkf hLk => (hno k f hkf hLk).1⟩, hasS_mix g3 fun k f hkf hLk => (hno k f hkf hLk).2⟩, f4⟩
      rw [hl]; exact f1
  rw [Nat.sub_self, Nat.add_zero] at hfin
  exact wp_region_any hx hfin
end
end Go.Proofs.Ytnopdnclefopbaa
