/- What is computed of one operation is so. It names no function of the program. -/
import Derived.Test.YtnopdnclefopbaaTq
namespace Go.Proofs.Ytnopdnclefopbaa
open Go.RowKit
set_option linter.unusedVariables false
set_option linter.unusedSimpArgs false

section
variable {P : Program} {E : Env} {kp : List Nat} {n : Nat} {ops : Array Oper} {d : Nat} {ty : TypeId} {ps : String} {af : Array Edge}

/-- A slice of the call's own is seen as shared: its row is frozen up to what is known of it. -/
theorem wk_freeze {st : AS} (t r : Nat) {m sz pub : Nat} {cells : List PV} {T : TypeId} (hx : Gv (look AV.any st.slots t) (.osl r m)) (hl : st.ob r = .row cells T sz pub) :
    Wk E kp n st ⟨(t, .p (.sl cells m)) :: st.slots, (r, .row cells T sz cells.length) :: st.heap⟩ := by
  rintro a w ⟨φ, Pub, I, h0, hn, hsl⟩
  obtain ⟨Pub', I', H, k1, k2⟩ := I.share hl (.inl rfl)
  refine ⟨φ, Pub', I', h0, hn, fun s => ?_⟩
  simp only [look_cons]
  split
  · next e =>
    subst e
    have k := shA_R k1 k2 (RA_mono H _ _ (fun _ _ => rfl) (hx _ _ _ _ (hsl t)))
    simpa [shA] using k
  · exact RA_mono H _ _ (fun _ _ => rfl) (hsl s)
variable {tab : TT} {vs : List (Nat × EV)} {bs : List (Nat × EB)} {st : ES}
theorem wk_refl {st : AS} : Wk E kp n st st := fun _ _ h => h
theorem frz_ok {x : Operand} {y : EV} {R : RS} (S : Sub vs bs st) (h : frz vs bs x = some (y, R)) (hC : ∀ c ∈ R.C, c) :
    Wk E kp n st.as (R.app st).as ∧ Gv ((R.app st).as.ev x) y.av ∧ (∀ z, (∀ q m, evOf vs z ≠ .osl q m) → (R.app st).as.ev z = st.as.ev z) := by
  unfold frz at h
  split at h
  · next t =>
    split at h
    · next r m hv =>
      have hx : Gv (look AV.any st.as.slots t) (.osl r m) := by
        have := S.v (.tmp t)
        have e : evOf vs (.tmp t) = .osl r m := hv
        rw [e] at this; exact this
      have oth : ∀ (y : AV) (H : List (Nat × OB)) (z : Operand), (∀ q m, evOf vs z ≠ .osl q m) → (AS.mk ((t, y) :: st.as.slots) H).ev z = st.as.ev z := fun y H z hz => by
        cases z with
        | tmp t' =>
          show look AV.any ((t, y) :: st.as.slots) t' = look AV.any st.as.slots t'
          rw [look_cons, if_neg (fun e => hz r m (by rw [← e]; exact hv))]
        | _ => rfl
      split at h
      · next l T pub hb =>
        cases h
        have e : m = l.length := hC (m = l.length) (by simp)
        subst e
        have k := wk_freeze (E := E) (kp := kp) (n := n) t r hx (S.ob hb (by simp))
        rw [List.length_map] at k
        refine ⟨k, ?_, fun z hz => oth _ _ z hz⟩
        show Gv (look AV.any ((t, _) :: _) t) _
        rw [look_cons, if_pos rfl]; exact Gv.r
      · next m' sz f T pub hb =>
        cases h
        have e : m = m' := hC (m = m') (by simp)
        subst e
        have k := wk_freeze (E := E) (kp := kp) (n := n) t r hx (S.ob hb (by simp))
        rw [lz_len] at k
        refine ⟨?_, ?_, fun z hz => oth _ _ z hz⟩
        · exact k
        · show Gv (look AV.any ((t, _) :: _) t) _
          rw [look_cons, if_pos rfl]; exact Gv.r
      · next cells T sz pub hb =>
        cases h
        have k := wk_freeze (E := E) (kp := kp) (n := n) t r hx (S.ob hb (by simp))
        rw [pvL_length] at k
        refine ⟨k, ?_, fun z hz => oth _ _ z hz⟩
        show Gv (look AV.any ((t, _) :: _) t) _
        rw [look_cons, if_pos rfl]; exact Gv.r
      · cases h
    · next y' hv =>
      cases h
      exact ⟨wk_refl, S.v (.tmp t), fun _ _ => rfl⟩
  · cases h
    exact ⟨wk_refl, S.v _, fun _ _ => rfl⟩

theorem optInt {y : Option EV} {o : Option Int} (h : (match y with | none => some none | some y => (asInt y).map fun p => some p.2) = some o) : (y = none ∧ o = none) ∨ ∃ z k i, y = some z ∧ o = some i ∧ asInt z = some (k, i) := by
  cases y with
  | none => cases h; exact .inl ⟨rfl, rfl⟩
  | some z =>
    simp only at h
    cases hz : asInt z with
    | none => rw [hz] at h; cases h
    | some p =>
      obtain ⟨k, i⟩ := p
      rw [hz] at h; cases h
      exact .inr ⟨z, k, i, rfl, rfl, hz⟩
theorem cutF_ok {T : TypeId} {x : Operand} {lo hi : Option Operand} {u z : EV} {C : List Prop} (hP : tab.ok P) {st : AS} {f : Operand → EV} (h : cutF tab T u (lo.map f) (hi.map f) = some (C, z)) (hC : ∀ c ∈ C, c) (hd : Nat.blt d n = true) (hx : Gv (st.ev x) u.av)
    (hf : ∀ y, (lo = some y ∨ hi = some y) → (asInt (f y)).isSome = true → Gv (st.ev y) (f y).av) : Step P E kp n ops ⟨some d, .slice T x lo hi none, ty, ps, af, none⟩ st (st.put d z.av) := by
  unfold cutF at h
  split at h
  · next lo' hi' h1 h2 =>
    have g1 := optInt h1
    have g2 := optInt h2
    have i1 : ∀ i, lo' = some i → ∃ y k, lo = some y ∧ Gv (st.ev y) (.p (.v (.int k i))) := fun i hi => by
      rcases g1 with ⟨_, e⟩ | ⟨z, k, j, e1, e2, e3⟩
      · rw [e] at hi; cases hi
      · rw [e2] at hi; cases hi
        cases lo with
        | none => cases e1
        | some y => cases e1; exact ⟨y, k, rfl, (hf y (.inl rfl) (by rw [e3]; rfl)).trans (asInt_gv e3)⟩
    have i2 : ∀ i, hi' = some i → ∃ y k, hi = some y ∧ Gv (st.ev y) (.p (.v (.int k i))) := fun i hq => by
      rcases g2 with ⟨_, e⟩ | ⟨z, k, j, e1, e2, e3⟩
      · rw [e] at hq; cases hq
      · rw [e2] at hq; cases hq
        cases hi with
        | none => cases e1
        | some y => cases e1; exact ⟨y, k, rfl, (hf y (.inr rfl) (by rw [e3]; rfl)).trans (asInt_gv e3)⟩
    have n1 : lo' = none → lo = none := fun e => by
      rcases g1 with ⟨e1, _⟩ | ⟨z, k, j, e1, e2, e3⟩
      · cases lo with
        | none => rfl
        | some y => cases e1
      · rw [e2] at e; cases e
    have n2 : hi' = none → hi = none := fun e => by
      rcases g2 with ⟨e1, _⟩ | ⟨z, k, j, e1, e2, e3⟩
      · cases hi with
        | none => rfl
        | some y => cases e1
      · rw [e2] at e; cases e
    clear h1 h2 g1 g2
    split at h
    · next hti =>
      have hT := (TT.find_ok hP hti).str rfl
      split at h
      · next l hl =>
        have e := asS_eq hl; subst e
        cases lo' with
        | none =>
          obtain rfl := n1 rfl
          cases hi' with
          | none => cases h
          | some j =>
            obtain ⟨y, k, rfl, hy⟩ := i2 j rfl
            cases h
            have hb := hC (0 ≤ j ∧ j ≤ (l.length : Int)) (by simp)
            exact S_strHi hx hT hd hy hb.1 hb.2
        | some i =>
          obtain ⟨y, k, rfl, hy⟩ := i1 i rfl
          cases hi' with
          | none =>
            obtain rfl := n2 rfl
            cases h
            have hb := hC (0 ≤ i ∧ i ≤ (l.length : Int)) (by simp)
            exact S_strLo hx hT hd hy hb.1 hb.2
          | some j =>
            obtain ⟨y2, k2, rfl, hy2⟩ := i2 j rfl
            cases h
            have hb := hC (0 ≤ i ∧ i ≤ j ∧ j ≤ (l.length : Int)) (by simp)
            exact S_strLoHi hx hT hd hy hy2 hb.1 hb.2.1 hb.2.2
      · cases h
    · next e s _ _ _ _ _ _ hti =>
      obtain ⟨_, hT, _⟩ := (TT.find_ok hP hti).sl e s _ _ rfl
      split at h
      · next l =>
        cases hc : Nat.beq s 1 with
        | false => rw [hc] at h; cases h
        | true =>
          rw [hc] at h
          simp only [cond_true] at h
          have e1 := nat_eq hc; subst e1
          cases lo' with
          | none =>
            obtain rfl := n1 rfl
            cases hi' with
            | none => cases h
            | some j =>
              obtain ⟨y, k, rfl, hy⟩ := i2 j rfl
              cases h
              have hb := hC (0 ≤ j ∧ j ≤ (l.length : Int)) (by simp)
              exact S_byHi hx hT hd hy rfl hb.1 hb.2
          | some i =>
            obtain ⟨y, k, rfl, hy⟩ := i1 i rfl
            cases hi' with
            | none =>
              obtain rfl := n2 rfl
              cases h
              have hb := hC (0 ≤ i ∧ i ≤ (l.length : Int)) (by simp)
              exact S_byLo hx hT hd hy rfl hb.1 hb.2
            | some j =>
              obtain ⟨y2, k2, rfl, hy2⟩ := i2 j rfl
              cases h
              have hb := hC (0 ≤ i ∧ i ≤ j ∧ j ≤ (l.length : Int)) (by simp)
              exact S_byLoHi hx hT hd hy hy2 rfl rfl hb.1 hb.2.1 hb.2.2
      · next m sz g =>
        cases hc : Nat.beq s sz with
        | false => rw [hc] at h; cases h
        | true =>
          rw [hc] at h
          simp only [cond_true] at h
          have e1 := nat_eq hc; subst e1
          have hx' : Gv (st.ev x) (.p (.sl (lzC m s g) m)) := by simpa [EV.av, EV.pv] using hx
          have hlen : m * s ≤ (lzC m s g).length := by rw [lz_len]; exact Nat.le_refl _
          cases lo' with
          | none =>
            obtain rfl := n1 rfl
            cases hi' with
            | none => cases h
            | some j =>
              obtain ⟨y, k, rfl, hy⟩ := i2 j rfl
              cases h
              have hb := hC (0 ≤ j ∧ j ≤ (m : Int)) (by simp)
              refine (S_slHi hx' hT hlen hd hy hb.1 hb.2).cast (put_eq ?_)
              have k := lzC_sub (m := m) (sz := s) (k := j.toNat) (i := 0) (f := g) (by omega)
              have e : (fun a b => g (0 + a) b) = g := by funext a b; rw [Nat.zero_add]
              rw [Nat.zero_mul, List.drop_zero, e] at k
              rw [k]; simp [EV.av, EV.pv]
          | some i =>
            obtain ⟨y, k, rfl, hy⟩ := i1 i rfl
            cases hi' with
            | none =>
              obtain rfl := n2 rfl
              cases h
              have hb := hC (0 ≤ i ∧ i ≤ (m : Int)) (by simp)
              refine (S_slLo hx' hT hlen hd hy hb.1 hb.2).cast (put_eq ?_)
              rw [lzC_sub (by omega)]; simp [EV.av, EV.pv]
            | some j =>
              obtain ⟨y2, k2, rfl, hy2⟩ := i2 j rfl
              cases h
              have hb := hC (0 ≤ i ∧ i ≤ j ∧ j ≤ (m : Int)) (by simp)
              refine (S_slLoHi hx' hT hlen hd hy hy2 hb.1 hb.2.1 hb.2.2).cast (put_eq ?_)
              rw [lzC_sub (by omega)]; simp [EV.av, EV.pv]
      · cases h
    · cases h
  · cases h
theorem boxEB {r : Nat} {l : List EV} {T : TypeId} : (EB.box l T).ob = .box (avL l) T := rfl
theorem allocF_ok {T : TypeId} {R : RS} (hP : tab.ok P) (h : allocF tab d T = some R) (hf : ∀ p ∈ R.hp, st.free kp p.1 = true) (hd : Nat.blt d n = true) : Step P E kp n ops ⟨some d, .alloc T, ty, ps, af, none⟩ st.as (R.app st).as := by
  unfold allocF at h
  split at h
  · next z _ hti =>
    cases h
    obtain ⟨h1, h2⟩ := (TT.find_ok hP hti).ze z rfl
    have hfr := hf (nmB d, .box (vsE z) T) (by simp)
    refine (S_alloc (nmB d) h1 h2 (by rw [as_free]; exact hfr) hd).cast ?_
    rw [boxV_vs]; rfl
  · cases h
theorem hasL_cs {r : Nat} {x : EV} {st : ES} (h : st.free kp r = true) (hx : ∀ q, x.has q = true → st.free kp q = false) : hasE r (csE x) = false := by
  cases hq : hasE r (csE x) with
  | false => rfl
  | true =>
    have : x.has r = true := by
      cases x with
      | agg l => simp only [csE] at hq; simp only [EV.has]; exact hq
      | _ => simp only [csE, hasE, Bool.or_false] at hq; exact hq
    rw [hx r this] at h; cases h
theorem has_slot {r t : Nat} {l : List (Nat × EV)} (h : (look EV.any l t).has r = true) : hasS r l = true := by
  induction l with
  | nil => simp [look, EV.has] at h
  | cons p l ih =>
    obtain ⟨k, x⟩ := p
    rw [look_cons] at h
    simp only [hasS, Bool.or_eq_true]
    split at h
    · exact .inl h
    · exact .inr (ih h)
theorem ev_free (S : Sub vs bs st) (x : Operand) (q : Nat) (h : (evOf vs x).has q = true) : st.free kp q = false := by
  rcases S.e x with k | k
  · rw [k] at h; simp [EV.has] at h
  · rw [← k] at h
    cases x with
    | tmp t =>
      have := has_slot (l := st.slots) h
      unfold ES.free; rw [this]; simp
    | const c => simp [ES.ev, evOf, EV.has] at h
    | func f => simp [ES.ev, evOf, EV.has] at h
    | global g => simp [ES.ev, evOf, EV.has] at h
theorem boxF_ok {T : TypeId} {x : Operand} {R : RS} (S : Sub vs bs st) (h : boxF d T (evOf vs x) = some R) (hC : ∀ c ∈ R.C, c) (hf : ∀ p ∈ R.hp, st.free kp p.1 = true) (hd : Nat.blt d n = true) : Step P E kp n ops ⟨some d, .box T x, ty, ps, af, none⟩ st.as (R.app st).as := by
  unfold boxF at h
  split at h
  · next m f hx =>
    cases h
    have hfr := hf (nmB d, .bz m f T) (by simp)
    have ho := hC (∀ i, i < m → oneE (f i) = true ∧ (f i).sh = true) (by simp)
    have gx := S.v x; rw [hx] at gx
    refine (S_box (y := .agg ((azC m f).map AV.p)) (nmB d) (gx.trans Gv.agg') (ones_azC (fun i hi => (ho i hi).1) (fun i hi => (ho i hi).2)) (hasL_mapP _ _) (by rw [as_free]; exact hfr) hd).cast ?_
    rfl
  · cases hc : onesE (csE (evOf vs x)) with
    | false => rw [hc] at h; cases h
    | true =>
      rw [hc] at h; cases h
      have hfr := hf (nmB d, .box (csE (evOf vs x)) T) (by simp)
      refine (S_box (nmB d) (S.v x) (by rw [av_cs _ hc]; exact ones_av _ hc) (by rw [av_cs _ hc, has_avL]; exact hasL_cs hfr (ev_free S x)) (by rw [as_free]; exact hfr) hd).cast ?_
      rw [av_cs _ hc]; rfl
theorem parts_eq (S : Sub vs bs st) : ∀ {parts : List (Nat × Operand)}, (∀ p ∈ partsE vs parts, p.2 ≠ EV.any) → (parts.map fun p => (p.1, st.as.ev p.2)) = (partsE vs parts).map fun p => (p.1, p.2.av)
  | [], _ => rfl
  | (i, x) :: l, h => by
    simp only [partsE, List.map_cons]
    rw [parts_eq S (fun p hp => h p (by simp only [partsE]; exact List.mem_cons_of_mem _ hp)), S.eq (h (i, evOf vs x) (by simp [partsE]))]
theorem buildF_ok {T : TypeId} {parts : Array (Nat × Operand)} {R : RS} (hP : tab.ok P) (S : Sub vs bs st) (h : buildF tab vs d T parts.toList = some R) (hd : Nat.blt d n = true) : Step P E kp n ops ⟨some d, .build T parts, ty, ps, af, none⟩ st.as (R.app st).as := by
  unfold buildF at h
  split at h
  · next pl _ _ z _ hti =>
    have hT := TT.find_ok hP hti
    split at h
    · next l hl =>
      cases h
      obtain ⟨k1, k2⟩ := fillE_ok pl hl
      have h2 : parts = parts.toList.toArray := by simp
      rw [h2]
      exact S_build (hT.st pl rfl) (hT.ze z rfl).1 (by rw [boxV_vs, parts_eq S k2]; exact k1) hd
    · cases h
  · next m s e _ _ z _ hti =>
    have hT := TT.find_ok hP hti
    split at h
    · next l hl =>
      cases h
      obtain ⟨k1, k2⟩ := fillE_ok _ hl
      have h2 : parts = parts.toList.toArray := by simp
      rw [h2]
      have hp : ∀ (m o : Nat), ((arPl s m o).map fun p => (p.1, p.2.1)) = (List.range m).map fun i => (o + i * s, s) := by
        intro m
        induction m with
        | zero => intro o; rfl
        | succ m ih =>
          intro o
          rw [List.range_succ_eq_map, List.map_cons, List.map_map]
          simp only [arPl, List.map_cons, ih, Nat.zero_mul, Nat.add_zero]
          congr 1
          apply List.map_congr_left
          intro i _
          show (o + s + i * s, s) = (o + (i + 1) * s, s)
          rw [Nat.succ_mul]; congr 1; omega
      have hp0 := hp m 0
      simp only [Nat.zero_add] at hp0
      exact S_buildAr (hT.ar m s e rfl).1 (hT.ze z rfl).1 (by rw [boxV_vs, parts_eq S k2, ← hp0]; exact k1) hd
    · cases h
  · cases h
theorem elsE_ok {sz : Nat} (len : Nat) (hsz : 0 < sz) : ∀ {parts : List (Nat × EV)} {l : List EV} (k : Nat) (cells : List AV), elsE sz k parts = some l → k + parts.length = len → cells.length = len * sz →
    fillA ((List.range len).map fun i => (i * sz, sz)) cells (parts.map fun p => (p.1, p.2.av)) = some (cells.take (k * sz) ++ avL l) ∧ (∀ p ∈ parts, p.2 ≠ .any) ∧ onesE l = true ∧ shL l = true ∧ l.length = parts.length * sz
  | [], l, k, cells, h, hk, hl => by
    unfold elsE at h; cases h
    refine ⟨?_, by simp, rfl, rfl, by simp⟩
    simp only [List.map_nil, fillA, avL, List.append_nil]
    rw [List.take_of_length_le]
    simp only [List.length_nil] at hk
    rw [hl, ← hk]; simp
  | (i, x) :: rest, l, k, cells, h, hk, hl => by
    unfold elsE at h
    cases hc : Nat.beq i k && Nat.beq (csE x).length sz && onesE (csE x) && shL (csE x) with
    | false => rw [hc] at h; cases h
    | true =>
      rw [hc] at h
      simp only [cond_true] at h
      simp only [Bool.and_eq_true] at hc
      obtain ⟨⟨⟨c1, c2⟩, c3⟩, c4⟩ := hc
      have e1 := nat_eq c1; subst e1
      have e2 := nat_eq c2
      split at h
      · next m hm =>
        cases h
        simp only [List.length_cons] at hk
        have hi : i < len := by omega
        have hin : i * sz + sz ≤ cells.length := by
          rw [hl]
          have : (i + 1) * sz ≤ len * sz := Nat.mul_le_mul_right _ hi
          rw [Nat.succ_mul] at this; exact this
        have hcs := av_cs x c3
        have hpl : (putL cells (i * sz) (avL (csE x))).length = len * sz := by rw [putL_length]; exact hl
        obtain ⟨k1, k2, k3, k4, k5⟩ := elsE_ok len hsz (i + 1) (putL cells (i * sz) (avL (csE x))) hm (by omega) hpl
        have hne : x ≠ .any := fun e => by subst e; simp [csE, onesE, oneE] at c3
        have on : ∀ (a b : List EV), onesE a = true → onesE b = true → onesE (a ++ b) = true := by
          intro a b ha hb
          induction a with
          | nil => exact hb
          | cons y a ih => simp only [onesE, Bool.and_eq_true, List.cons_append] at ha ⊢; exact ⟨ha.1, ih ha.2⟩
        have os : ∀ (a b : List EV), shL a = true → shL b = true → shL (a ++ b) = true := by
          intro a b ha hb
          induction a with
          | nil => exact hb
          | cons y a ih => simp only [shL, Bool.and_eq_true, List.cons_append] at ha ⊢; exact ⟨ha.1, ih ha.2⟩
        refine ⟨?_, fun p hp => ?_, on _ _ c3 k3, os _ _ c4 k4, by rw [List.length_append, e2, k5, List.length_cons, Nat.succ_mul]; omega⟩
        · simp only [List.map_cons, fillA, List.getElem?_map, List.getElem?_range hi, Option.map_some]
          rw [hcs, if_pos ⟨by rw [avL_length]; exact e2, hin, ones_av _ c3⟩, k1]
          congr 1
          rw [avL_append, ← List.append_assoc]
          congr 1
          rw [putL_mid _ _ _ (by rw [avL_length, e2]; exact hin), avL_length, e2]
          have e3 : (i + 1) * sz = i * sz + sz := Nat.succ_mul _ _
          rw [e3, List.take_left' (by simp [avL_length, e2]; omega)]
        · rcases List.mem_cons.1 hp with rfl | hp
          · exact hne
          · exact k2 p hp
      · cases h
theorem u8sE_ok : ∀ {l : List EV} {q : List UInt8}, u8sE l = some q → pvL l = q.map b8P ∧ q.length = l.length
  | [], q, h => by unfold u8sE at h; cases h; exact ⟨rfl, rfl⟩
  | x :: l, q, h => by
    unfold u8sE at h
    split at h
    · next h0 => cases h0
    · next c l' heq =>
      cases heq
      split at h
      · next m hm => cases h; obtain ⟨h1, h2⟩ := u8sE_ok hm; exact ⟨by simp [pvL, EV.pv, h1], by simp [h2]⟩
      · cases h
    · next m l' heq =>
      cases heq
      cases hb : Nat.blt m 256 with
      | false => rw [hb] at h; cases h
      | true =>
        rw [hb] at h
        simp only [cond_true] at h
        split at h
        · next q' hq =>
          cases h
          obtain ⟨h1, h2⟩ := u8sE_ok hq
          rw [Nat.blt_eq] at hb
          have e : ((UInt8.ofNat m).toNat : Int) = Int.ofNat m := by rw [UInt8.toNat_ofNat']; simp; omega
          exact ⟨by simp only [pvL, EV.pv, h1, List.map_cons, b8P, e], by simp [h2]⟩
        · cases h
    · cases h
theorem isU8_ok {e sz by_ : Nat} {z : List Value} (hP : tab.ok P) (h : isU8 tab e sz by_ z = true) : P.underlying e = some (.int .u8) ∧ sz = 1 ∧ by_ ≤ 10000 ∧ z = [.int .u8 0] := by
  unfold isU8 at h
  split at h
  · next hti =>
    simp only [Bool.and_eq_true, Nat.ble_eq] at h
    refine ⟨(TT.find_ok hP hti).int _ rfl, nat_eq h.1.1, h.1.2, ?_⟩
    have h2 := h.2
    split at h2
    · rfl
    · cases h2
  · cases h
end
end Go.Proofs.Ytnopdnclefopbaa
