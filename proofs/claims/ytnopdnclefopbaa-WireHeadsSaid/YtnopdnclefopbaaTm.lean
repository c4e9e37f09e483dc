/- What is computed of loads, stores and places in memory is so. It names no function of the program. -/
import Derived.Test.YtnopdnclefopbaaTo
namespace Go.Proofs.Ytnopdnclefopbaa
open Go.RowKit
set_option linter.unusedVariables false
set_option linter.unusedSimpArgs false

theorem dpE_eq : ∀ (n : Nat) (l : List EV), dpE n l = l.drop n
  | 0, l => by simp [dpE]
  | n + 1, [] => by simp [dpE]
  | n + 1, x :: l => by simp [dpE, dpE_eq n l]
theorem tkE_eq : ∀ {n : Nat} {l m : List EV}, tkE n l = some m → m = l.take n ∧ m.length = n
  | 0, l, m, h => by unfold tkE at h; cases h; simp
  | n + 1, [], m, h => by unfold tkE at h; cases h
  | n + 1, x :: l, m, h => by
    unfold tkE at h
    cases hq : tkE n l with
    | none => rw [hq] at h; cases h
    | some q => rw [hq] at h; cases h; obtain ⟨h1, h2⟩ := tkE_eq hq; simp [← h1, h2]
theorem nthE_eq : ∀ (n : Nat) (l : List EV), nthE n l = l[n]?
  | n, [] => by simp [nthE]
  | 0, x :: l => by simp [nthE]
  | n + 1, x :: l => by simp [nthE, nthE_eq n l]
theorem ptE_eq : ∀ {o : Nat} {l xs m : List EV}, ptE o l xs = some m → m = putL l o xs ∧ o + xs.length ≤ max l.length o
  | o, l, [], m, h => by
    have : m = l := by cases o <;> cases l <;> simp [ptE] at h <;> simp [h]
    subst this; simp [putL]; omega
  | o, [], x :: xs, m, h => by cases o <;> simp [ptE] at h
  | 0, y :: l, x :: xs, m, h => by
    unfold ptE at h
    cases hq : ptE 0 l xs with
    | none => rw [hq] at h; cases h
    | some q =>
      rw [hq] at h; cases h
      obtain ⟨h1, h2⟩ := ptE_eq hq
      have e : ∀ (xs : List EV) (o : Nat) (a : EV) (l : List EV), putL (a :: l) (o + 1) xs = a :: putL l o xs := by
        intro xs
        induction xs with
        | nil => intro o a l; rfl
        | cons z xs ih => intro o a l; show putL ((a :: l).set (o + 1) z) (o + 1 + 1) xs = a :: putL (l.set o z) (o + 1) xs; rw [List.set_cons_succ, ih]
      refine ⟨?_, by simp at h2 ⊢; omega⟩
      show _ = putL ((y :: l).set 0 x) (0 + 1) xs
      rw [List.set_cons_zero, e, h1]
  | o + 1, y :: l, x :: xs, m, h => by
    unfold ptE at h
    cases hq : ptE o l (x :: xs) with
    | none => rw [hq] at h; cases h
    | some q =>
      rw [hq] at h; cases h
      obtain ⟨h1, h2⟩ := ptE_eq hq
      have e : ∀ (xs : List EV) (o : Nat) (a : EV) (l : List EV), putL (a :: l) (o + 1) xs = a :: putL l o xs := by
        intro xs
        induction xs with
        | nil => intro o a l; rfl
        | cons z xs ih => intro o a l; show putL ((a :: l).set (o + 1) z) (o + 1 + 1) xs = a :: putL (l.set o z) (o + 1) xs; rw [List.set_cons_succ, ih]
      exact ⟨by rw [e, h1], by simp at h2 ⊢; omega⟩
theorem avL_drop (n : Nat) (l : List EV) : avL (l.drop n) = (avL l).drop n := by rw [avL_map, avL_map, List.map_drop]
theorem avL_take (n : Nat) (l : List EV) : avL (l.take n) = (avL l).take n := by rw [avL_map, avL_map, List.map_take]
theorem avL_length (l : List EV) : (avL l).length = l.length := by rw [avL_map, List.length_map]
theorem pvL_drop (n : Nat) (l : List EV) : pvL (l.drop n) = (pvL l).drop n := by rw [pvL_map, pvL_map, List.map_drop]
theorem pvL_take (n : Nat) (l : List EV) : pvL (l.take n) = (pvL l).take n := by rw [pvL_map, pvL_map, List.map_take]
theorem pvL_length (l : List EV) : (pvL l).length = l.length := by rw [pvL_map, List.length_map]
theorem avL_get (l : List EV) (n : Nat) : (avL l)[n]? = (l[n]?).map EV.av := by rw [avL_map, List.getElem?_map]
theorem pvL_get (l : List EV) (n : Nat) : (pvL l)[n]? = (l[n]?).map EV.pv := by rw [pvL_map, List.getElem?_map]
theorem putL_mapf {α β : Type} (f : α → β) : ∀ (xs : List α) (o : Nat) (l : List α), (putL l o xs).map f = putL (l.map f) o (xs.map f)
  | [], o, l => rfl
  | x :: xs, o, l => by
    show (putL (l.set o x) (o + 1) xs).map f = putL ((l.map f).set o (f x)) (o + 1) (xs.map f)
    rw [putL_mapf f xs, List.map_set]
theorem avL_put (xs : List EV) (o : Nat) (l : List EV) : avL (putL l o xs) = putL (avL l) o (avL xs) := by rw [avL_map, avL_map, avL_map, putL_mapf]
theorem pvL_put (xs : List EV) (o : Nat) (l : List EV) : pvL (putL l o xs) = putL (pvL l) o (pvL xs) := by rw [pvL_map, pvL_map, pvL_map, putL_mapf]
theorem avL_append (l m : List EV) : avL (l ++ m) = avL l ++ avL m := by simp [avL_map]
theorem pvL_append (l m : List EV) : pvL (l ++ m) = pvL l ++ pvL m := by simp [pvL_map]

theorem one_av (x : EV) (h : oneE x = true) : x.av.one = true := by
  cases x <;> simp [oneE] at h <;> simp [EV.av, EV.pv, AV.one, h, bytesP] <;> rfl
theorem ones_av : ∀ (l : List EV), onesE l = true → allOne (avL l) = true
  | [], _ => rfl
  | x :: xs, h => by
    simp only [onesE, Bool.and_eq_true] at h
    simp only [avL, allOne, Bool.and_eq_true]
    exact ⟨one_av x h.1, ones_av xs h.2⟩
/-- A value's cells are those of the one without addresses, where they are fit for memory. -/
theorem cs_av (x : EV) (h : onesE (csE x) = true) : ∃ y, Gv x.av y ∧ y.cs = avL (csE x) := by
  cases x with
  | agg l => exact ⟨.agg (avL l), Gv.r, rfl⟩
  | tup l => simp [csE, onesE, oneE] at h
  | raw x => simp [csE, onesE, oneE] at h
  | cnd g x => simp [csE, onesE, oneE] at h
  | any => simp [csE, onesE, oneE] at h
  | az n f => simp [csE, onesE, oneE] at h
  | v u =>
    refine ⟨_, Gv.r, ?_⟩
    simp [csE, EV.av, AV.cs, avL]
  | _ => exact ⟨_, Gv.r, rfl⟩
theorem pl_toPs : ∀ (l : List EV), shL l = true → ∀ q : List AV, q = avL l → ∃ q', (∀ w Pub φ us, RAs w Pub φ q us → RPs w Pub q' us) ∧ q' = pvL l
  | l, h, q, e => ⟨pvL l, fun w Pub φ us k => (avL_pvL l us h).1 (by rw [← e]; exact k), rfl⟩

section
variable {P : Program} {E : Env} {kp : List Nat} {n : Nat} {ops : Array Oper} {d : Nat} {ty : TypeId} {ps : String} {af : Array Edge}

theorem Step.wk {o : Oper} {st st' st'' : AS} (h : Step P E kp n ops o st st') (k : Wk E kp n st' st'') : Step P E kp n ops o st st'' := fun a w K Q hs hK => h a w K Q hs fun a' w' hs' => hK a' w' (k a' w' hs')
theorem Step.pre {o : Oper} {st st' st'' : AS} (k : Wk E kp n st st') (h : Step P E kp n ops o st' st'') : Step P E kp n ops o st st'' := fun a w K Q hs hK => h a w K Q (k a w hs) hK
theorem wk_put {st : AS} {d : Nat} {x y : AV} (h : Gv x y) : Wk E kp n (st.put d x) (st.put d y) := by
  rintro a w ⟨φ, Pub, I, h0, hn, hsl⟩
  refine ⟨φ, Pub, I, h0, hn, fun q => ?_⟩
  have k := hsl q
  simp only [AS.put, look_cons] at k ⊢
  split
  · next e => rw [if_pos e] at k; exact h _ _ _ _ k
  · next e => rw [if_neg e] at k; exact k
theorem Step.gv {o : Oper} {st st' : AS} {d : Nat} {x y : AV} (h : Step P E kp n ops o st (st'.put d x)) (k : Gv x y) : Step P E kp n ops o st (st'.put d y) := h.wk (wk_put k)

/-- What is seen of a state: some slots, some blocks. -/
structure Sub (vs : List (Nat × EV)) (bs : List (Nat × EB)) (st : ES) : Prop where
  e : ∀ x, evOf vs x = .any ∨ st.ev x = evOf vs x
  b : ∀ r, ob_ bs r = .dead ∨ st.eb r = ob_ bs r
theorem Sub.v {vs : List (Nat × EV)} {bs : List (Nat × EB)} {st : ES} (S : Sub vs bs st) (x : Operand) : Gv (st.as.ev x) (evOf vs x).av := by
  rw [as_ev]
  rcases S.e x with k | k
  · rw [k]; exact Gv.any
  · rw [k]; exact Gv.r
theorem Sub.eq {vs : List (Nat × EV)} {bs : List (Nat × EB)} {st : ES} (S : Sub vs bs st) {x : Operand} (h : evOf vs x ≠ .any) : st.as.ev x = (evOf vs x).av := by
  rw [as_ev]
  rcases S.e x with k | k
  · exact absurd k h
  · rw [k]
theorem Sub.ob {vs : List (Nat × EV)} {bs : List (Nat × EB)} {st : ES} (S : Sub vs bs st) {r : Nat} {eb : EB} (h : ob_ bs r = eb) (hne : eb ≠ .dead) : st.as.ob r = eb.ob := by
  rw [as_ob]
  rcases S.b r with k | k
  · rw [h] at k; exact absurd k hne
  · rw [k, h]
def RS.app (R : RS) (st : ES) : ES := ⟨R.sl ++ st.slots, R.hp ++ st.heap⟩

variable {tab : TT} {vs : List (Nat × EV)} {bs : List (Nat × EB)} {st : ES}

theorem getE_box {ti : TI} {T : TypeId} {x : Operand} {r off : Nat} {cells : List EV} {t : TypeId} {C : List Prop} {y : EV} (hT : TIok P T ti) (h : getE ti true off cells = some (C, y)) (hd : Nat.blt d n = true) {st : AS}
    (hx : Gv (st.ev x) (.own r off)) (hl : st.ob r = .box (avL cells) t) : Step P E kp n ops ⟨some d, .load T x, ty, ps, af, none⟩ st (st.put d y.av) := by
  unfold getE at h
  cases ha : ti.agg with
  | true =>
    rw [ha] at h
    simp only [cond_true] at h
    split at h
    · next l hq =>
      simp only [Bool.true_or, cond_true] at h; cases h
      obtain ⟨h1, h2⟩ := tkE_eq hq
      rw [dpE_eq] at h1
      exact S_loadBoxN hd hx (by rw [hT.agg, ha]) hT.sz hl (by rw [h1, avL_take, avL_drop]) (by rw [avL_length]; exact h2)
    · cases h
  | false =>
    rw [ha] at h
    simp only [cond_false] at h
    split at h
    · next z hq =>
      simp only [Bool.true_or, cond_true] at h; cases h
      rw [nthE_eq] at hq
      exact S_loadBox hd hx (by rw [hT.agg, ha]) hl (by rw [avL_get, hq]; rfl)
    · cases h
theorem getE_row {ti : TI} {T : TypeId} {x : Operand} {r off sz pub : Nat} {cells : List EV} {t : TypeId} {C : List Prop} {y : EV} (hT : TIok P T ti) (h : getE ti false off cells = some (C, y)) (hd : Nat.blt d n = true) {st : AS}
    (hx : Gv (st.ev x) (.own r off)) (hl : st.ob r = .row (pvL cells) t sz pub) : Step P E kp n ops ⟨some d, .load T x, ty, ps, af, none⟩ st (st.put d y.av) := by
  unfold getE at h
  cases ha : ti.agg with
  | true =>
    rw [ha] at h
    simp only [cond_true] at h
    split at h
    · next l hq =>
      cases hs : shL l with
      | false => rw [hs] at h; cases h
      | true =>
        rw [hs] at h; cases h
        obtain ⟨h1, h2⟩ := tkE_eq hq
        rw [dpE_eq] at h1
        exact (S_loadRowN hd hx (by rw [hT.agg, ha]) hT.sz hl (l := pvL l) (by rw [h1, pvL_take, pvL_drop]) (by rw [pvL_length]; exact h2)).gv (Gv.sh' (x := .agg l) hs)
    · cases h
  | false =>
    rw [ha] at h
    simp only [cond_false] at h
    split at h
    · next z hq =>
      cases hs : z.sh with
      | false => rw [hs] at h; cases h
      | true =>
        rw [hs] at h; cases h
        rw [nthE_eq] at hq
        exact (S_loadRow hd hx (by rw [hT.agg, ha]) hl (v := y.pv) (by rw [pvL_get, hq]; rfl)).gv (Gv.sh' hs)
    · cases h
theorem getE_pp {ti : TI} {T : TypeId} {x : Operand} {off : Nat} {cells : List EV} {C : List Prop} {y : EV} (hT : TIok P T ti) (h : getE ti false off cells = some (C, y)) (hd : Nat.blt d n = true) {st : AS}
    (hx : Gv (st.ev x) (.p (.pp (pvL cells) off))) : Step P E kp n ops ⟨some d, .load T x, ty, ps, af, none⟩ st (st.put d y.av) := by
  unfold getE at h
  cases ha : ti.agg with
  | true =>
    rw [ha] at h
    simp only [cond_true] at h
    split at h
    · next l hq =>
      cases hs : shL l with
      | false => rw [hs] at h; cases h
      | true =>
        rw [hs] at h; cases h
        obtain ⟨h1, h2⟩ := tkE_eq hq
        rw [dpE_eq] at h1
        exact (S_loadPpN hd hx (by rw [hT.agg, ha]) hT.sz (l := pvL l) (by rw [h1, pvL_take, pvL_drop]) (by rw [pvL_length]; exact h2)).gv (Gv.sh' (x := .agg l) hs)
    · cases h
  | false =>
    rw [ha] at h
    simp only [cond_false] at h
    split at h
    · next z hq =>
      cases hs : z.sh with
      | false => rw [hs] at h; cases h
      | true =>
        rw [hs] at h; cases h
        rw [nthE_eq] at hq
        exact (S_loadPp hd hx (by rw [hT.agg, ha]) (v := y.pv) (by rw [pvL_get, hq]; rfl)).gv (Gv.sh' hs)
    · cases h
abbrev lzC (n sz : Nat) (f : Nat → Nat → EV) : List PV := (List.range n).flatMap fun i => (List.range sz).map fun j => (f i j).pv
theorem lzE_len (f : Nat → Nat → EV) (i : Nat) : ∀ k j, (lzE f i k j).length = k
  | 0, _ => rfl
  | k + 1, j => by simp [lzE, lzE_len f i k]
theorem lzE_get (f : Nat → Nat → EV) (i : Nat) : ∀ k j q, q < k → (lzE f i k j)[q]? = some (f i (j + q))
  | 0, _, _, h => by omega
  | k + 1, j, 0, _ => by simp [lzE]
  | k + 1, j, q + 1, h => by
    simp only [lzE, List.getElem?_cons_succ]
    rw [lzE_get f i k (j + 1) q (by omega), show j + 1 + q = j + (q + 1) from by omega]
theorem lzC_cut {m sz : Nat} {f : Nat → Nat → EV} {i off s : Nat} (hi : i < m) (ho : off + s ≤ sz) : ((lzC m sz f).drop (i * sz + off)).take s = pvL (lzE f i s off) := by
  apply List.ext_getElem?
  intro q
  rw [List.getElem?_take]
  by_cases h : q < s
  · rw [if_pos h, List.getElem?_drop, show i * sz + off + q = i * sz + (off + q) from by omega, lz_get m sz f hi (by omega), pvL_get, lzE_get f i s off q h]; rfl
  · rw [if_neg h, List.getElem?_eq_none (by rw [pvL_length, lzE_len]; omega)]
theorem getZ_pp {ti : TI} {T : TypeId} {x : Operand} {m sz i off : Nat} {f : Nat → Nat → EV} {C : List Prop} {y : EV} (hT : TIok P T ti) (h : getZ ti m sz f i off = some (C, y)) (hC : ∀ c ∈ C, c) (hd : Nat.blt d n = true) {st : AS}
    (hx : Gv (st.ev x) (.p (.pp (lzC m sz f) (i * sz + off)))) : Step P E kp n ops ⟨some d, .load T x, ty, ps, af, none⟩ st (st.put d y.av) := by
  unfold getZ at h
  cases hc : Nat.ble (off + ti.sz) sz && Nat.ble 1 ti.sz with
  | false => rw [hc] at h; cases h
  | true =>
    rw [hc] at h
    simp only [cond_true] at h
    simp only [Bool.and_eq_true, Nat.ble_eq] at hc
    cases ha : ti.agg with
    | true =>
      rw [ha] at h
      simp only [cond_true] at h
      cases hs : shL (lzE f i ti.sz off) with
      | false => rw [hs] at h; cases h
      | true =>
        rw [hs] at h; cases h
        have hi := hC (i < m) (by simp)
        exact (S_loadPpN hd hx (by rw [hT.agg, ha]) hT.sz (l := pvL (lzE f i ti.sz off)) (lzC_cut hi hc.1) (by rw [pvL_length, lzE_len])).gv (Gv.sh' (x := .agg _) hs)
    | false =>
      rw [ha] at h
      simp only [cond_false] at h
      cases hs : (f i off).sh with
      | false => rw [hs] at h; cases h
      | true =>
        rw [hs] at h; cases h
        have hi := hC (i < m) (by simp)
        exact (S_loadPp hd hx (by rw [hT.agg, ha]) (v := (f i off).pv) (lz_get m sz f hi (by omega))).gv (Gv.sh' hs)
theorem getZ_row {ti : TI} {T : TypeId} {x : Operand} {r m sz z pub i off : Nat} {t : TypeId} {f : Nat → Nat → EV} {C : List Prop} {y : EV} (hT : TIok P T ti) (h : getZ ti m sz f i off = some (C, y)) (hC : ∀ c ∈ C, c) (hd : Nat.blt d n = true) {st : AS}
    (hx : Gv (st.ev x) (.own r (i * sz + off))) (hl : st.ob r = .row (lzC m sz f) t z pub) : Step P E kp n ops ⟨some d, .load T x, ty, ps, af, none⟩ st (st.put d y.av) := by
  unfold getZ at h
  cases hc : Nat.ble (off + ti.sz) sz && Nat.ble 1 ti.sz with
  | false => rw [hc] at h; cases h
  | true =>
    rw [hc] at h
    simp only [cond_true] at h
    simp only [Bool.and_eq_true, Nat.ble_eq] at hc
    cases ha : ti.agg with
    | true =>
      rw [ha] at h
      simp only [cond_true] at h
      cases hs : shL (lzE f i ti.sz off) with
      | false => rw [hs] at h; cases h
      | true =>
        rw [hs] at h; cases h
        have hi := hC (i < m) (by simp)
        exact (S_loadRowN hd hx (by rw [hT.agg, ha]) hT.sz hl (l := pvL (lzE f i ti.sz off)) (lzC_cut hi hc.1) (by rw [pvL_length, lzE_len])).gv (Gv.sh' (x := .agg _) hs)
    | false =>
      rw [ha] at h
      simp only [cond_false] at h
      cases hs : (f i off).sh with
      | false => rw [hs] at h; cases h
      | true =>
        rw [hs] at h; cases h
        have hi := hC (i < m) (by simp)
        exact (S_loadRow hd hx (by rw [hT.agg, ha]) hl (v := (f i off).pv) (lz_get m sz f hi (by omega))).gv (Gv.sh' hs)
abbrev azC (n : Nat) (f : Nat → EV) : List PV := (List.range n).map fun i => (f i).pv
theorem azC_get {m i : Nat} {f : Nat → EV} (h : i < m) : (azC m f)[i]? = some (f i).pv := by simp [azC, h]
theorem azC_len {m : Nat} {f : Nat → EV} : (azC m f).length = m := by simp [azC]
theorem loadF_ok {T : TypeId} {x : Operand} {u y : EV} {C : List Prop} (hP : tab.ok P) (S : Sub vs bs st) (h : loadF tab bs T u = some (C, y)) (hC : ∀ c ∈ C, c) (hd : Nat.blt d n = true) (hx : Gv (st.as.ev x) u.av) :
    Step P E kp n ops ⟨some d, .load T x, ty, ps, af, none⟩ st.as (st.as.put d y.av) := by
  unfold loadF at h
  cases hti : tab.find T with
  | none => rw [hti] at h; cases h
  | some ti =>
    rw [hti] at h
    have hT := TT.find_ok hP hti
    simp only at h
    split at h
    · split at h
      · next hb => exact getE_box hT h hd hx (S.ob hb (by simp))
      · next hb => exact getE_row hT h hd hx (S.ob hb (by simp))
      · next m f t hb =>
        have hob : st.as.ob _ = .box ((azC m f).map AV.p) t := S.ob hb (by simp)
        cases ha : ti.agg with
        | true =>
          rw [ha] at h
          simp only [cond_true] at h
          obtain ⟨hc, h⟩ := bif_some h
          cases h
          simp only [Bool.and_eq_true] at hc
          have e1 := nat_eq hc.1; have e2 := nat_eq hc.2; subst e1
          refine (S_loadBoxN (l := (azC m f).map AV.p) hd hx (by rw [hT.agg, ha]) hT.sz hob ?_ ?_).gv Gv.agg
          · rw [e2, List.drop_zero, List.take_of_length_le (by simp)]
          · simp [e2]
        | false =>
          rw [ha] at h
          simp only [cond_false] at h
          obtain ⟨hs, h⟩ := bif_some h
          · cases h
            have hi := hC _ (List.mem_singleton.2 rfl)
            exact (S_loadBox hd hx (by rw [hT.agg, ha]) hob (v := .p (f _).pv) (by rw [List.getElem?_map, azC_get hi]; rfl)).gv (Gv.sh' hs)
      · cases h
    · next r s i off =>
      split at h
      · next l t pub hb =>
        cases ha : ti.agg with
        | true => rw [ha] at h; cases h
        | false =>
          rw [ha] at h
          simp only [cond_false] at h
          cases hc : Nat.beq s 1 && Nat.beq off 0 with
          | false => rw [hc] at h; cases h
          | true =>
            rw [hc] at h; cases h
            simp only [Bool.and_eq_true] at hc
            have e1 := nat_eq hc.1; have e2 := nat_eq hc.2; subst e1 e2
            have hi := hC (i < l.length) (by simp)
            refine S_loadByteR hd (off := i) ?_ (by rw [hT.agg, ha]) (S.ob hb (by simp)) hi
            simpa [EV.av] using hx
      · next hb =>
        cases hc : Nat.beq s _ with
        | false => rw [hc] at h; cases h
        | true =>
          rw [hc] at h
          simp only [cond_true] at h
          have e1 := nat_eq hc; subst e1
          exact getZ_row hT h hC hd hx (S.ob hb (by simp))
      · next hb => exact getE_row hT h hd hx (S.ob hb (by simp))
      · cases h
    · exact getE_pp hT h hd hx
    · next l i =>
      cases ha : ti.agg with
      | true => rw [ha] at h; cases h
      | false =>
        rw [ha] at h; cases h
        have hi := hC (i < l.length) (by simp)
        exact S_loadByte hd hx (by rw [hT.agg, ha]) hi
    · exact getZ_pp hT h hC hd hx
    · cases h
end
end Go.Proofs.Ytnopdnclefopbaa
