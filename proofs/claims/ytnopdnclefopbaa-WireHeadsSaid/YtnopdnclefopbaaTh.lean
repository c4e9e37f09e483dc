/- Regions that draw their order, over typed values: the computation. It names no function of the program. -/
import Derived.Test.YtnopdnclefopbaaTg
namespace Go.Proofs.Ytnopdnclefopbaa
open Go.RowKit
set_option linter.unusedVariables false
set_option linter.unusedSimpArgs false

mutual
def EV.nms : EV → List Nat → List Nat
  | .agg l, k => nmsE l k
  | .tup l, k => nmsE l k
  | .own q _, k => q :: k
  | .osl q _, k => q :: k
  | .po q _ _ _, k => q :: k
  | .cnd _ x, k => EV.nms x k
  | .v _, k => k
  | .u8 _, k => k
  | .u32 _, k => k
  | .u64 _, k => k
  | .az _ _, k => k
  | .bs _, k => k
  | .lz _ _ _, k => k
  | .pp _ _, k => k
  | .pb _ _, k => k
  | .pz _ _ _ _ _, k => k
  | .raw _, k => k
  | .sl _ _, k => k
  | .any, k => k
def nmsE : List EV → List Nat → List Nat
  | [], k => k
  | x :: xs, k => EV.nms x (nmsE xs k)
end
def nmsS : List (Nat × EV) → List Nat
  | [] => []
  | p :: l => p.2.nms (nmsS l)
def EB.nms : EB → List Nat → List Nat
  | .box cells _, k => nmsE cells k
  | _, k => k
/-- The names that are come to from some. -/
def reach (hp : List (Nat × EB)) : Nat → List Nat → List Nat → List Nat
  | 0, _, seen => seen
  | _ + 1, [], seen => seen
  | f + 1, q :: todo, seen => bif memN q seen then reach hp f todo seen else reach hp f ((ob_ hp q).nms todo) (q :: seen)
def nrmN : List Nat → (List Nat → Prop) → Prop
  | [], k => k []
  | x :: l, k => nrmN l (fun m => k (x :: m))
theorem nrmN_eq : ∀ (l : List Nat) (k : List Nat → Prop), nrmN l k = k l
  | [], k => rfl
  | x :: l, k => nrmN_eq l _
def pkH (hp : List (Nat × EB)) : List Nat → List (Nat × EB)
  | [] => []
  | r :: l => (r, look .dead hp r) :: pkH hp l
/-- Does the operation look at blocks? -/
def needB : Op → Bool
  | .load _ _ => true
  | .store _ _ _ => true
  | .slice _ _ _ _ _ => true
  | .convert _ _ _ => true
  | .call _ => true
  | _ => false
def gdOf (ops : Array Oper) (o : Oper) (l : List Nat) : List Nat :=
  match o.guard with
  | some (j, _) => match (ops[j]?).bind (·.dst) with
    | some s => s :: l
    | none => l
  | none => l
def tbOf (sl : List (Nat × EV)) (hp : List (Nat × EB)) (rd : List Nat) (o : Oper) : List Nat :=
  match callOf o with
  | some _ => reach hp 60 (nmsS (pkV sl rd)) []
  | none => bif needB o.op then nmsS (pkV sl rd) else []
/-- The keys that are new. -/
def nwK (bs : List (Nat × EB)) : List (Nat × EB) → (List Nat → Prop) → Prop
  | [], k => k []
  | p :: l, k => bif (ob_ bs p.1).alive then nwK bs l k else nwK bs l (fun m => k (p.1 :: m))
def nwL (bs : List (Nat × EB)) : List (Nat × EB) → List Nat
  | [] => []
  | p :: l => bif (ob_ bs p.1).alive then nwL bs l else p.1 :: nwL bs l
theorem nwK_eq (bs : List (Nat × EB)) : ∀ (l : List (Nat × EB)) (k : List Nat → Prop), nwK bs l k = k (nwL bs l)
  | [], k => rfl
  | p :: l, k => by
    unfold nwK nwL
    cases (ob_ bs p.1).alive with
    | true => exact nwK_eq bs l _
    | false => exact nwK_eq bs l _
def frN (st : ES) (kp : List Nat) : List Nat → Bool
  | [] => true
  | r :: l => st.free kp r && frN st kp l
def goD (kp : List Nat) (m i : Nat) (rd tb : List Nat) (es : List EF) (sl : List (Nat × EV)) (hp : List (Nat × EB)) (K : List EF → ES → Prop) : Option RS → Prop
  | some ⟨C, rs, rh⟩ => appK (fun rs => appK (fun rh => nwK (pkH hp tb) rh (fun nw =>
      bif frN ⟨sl, hp⟩ kp nw && pairs m ⟨rs, rh, rd, tb, nw⟩ i es then obA C (appK (fun s => appK (fun h => K (⟨rs, rh, rd, tb, nw⟩ :: es) ⟨s, h⟩) hp rh) sl rs) else False)) [] rh) [] rs
  | none => False
section
variable (P : Program) (kp : List Nat) (n : Nat) (tab : TT) (H : Hi) (ops : Array Oper)
/-- A region that draws its order. -/
def runD : List Oper → List Nat → Nat → List EF → ES → (ES → Prop) → Prop
  | [], _, _, _, st, K => K st
  | _ :: _, [], _, _, _, _ => False
  | o :: os, m :: ms, i, es, ⟨sl, hp⟩, K => bif isSome' o.dst n then
      nrmN (gdOf ops o (opnds o.op.operands.toList)) (fun rd => nrmN (tbOf sl hp rd o) (fun tb =>
      match callOf o with
      | some (f, args) => match o.guard with
        | none => ∃ hin as hout res, Cf P f hin as hout res ∧ goD kp m i rd tb es sl hp (fun es' st' => runD os ms (i + 1) es' st' K) (callF (pkV sl rd) (pkH hp tb) o.dst args hin as hout res)
        | some (j, want) => match o.dst, guardB ops (pkV sl rd) j want with
          | some d, some c => ∃ as res, (match fitL [] (argE (stripV (pkV (pkV sl rd) (opnds args))) args) as with
            | some (C, []) => bif res.av.inH [] && inDL [] (avL as) && res.av.inD [] then ((c = true → Cf P f [] as [] res) ∧ obA (impP (c = true) (stripC (pkV (pkV sl rd) (opnds args)) ++ C)) (goD kp m i rd tb es sl hp (fun es' st' => runD os ms (i + 1) es' st' K) (some ⟨[], [(d, .cnd c res)], []⟩))) else False
            | _ => False)
          | _, _ => False
      | none => match nilF tab (pkV sl rd) o with
        | some _ => False
        | none => goD kp m i rd tb es sl hp (fun es' st' => runD os ms (i + 1) es' st' K) (stepF tab H ops (pkV sl rd) (pkH hp tb) o))) else False
end
theorem mem_opnds : ∀ {l : List Operand} {t : Nat}, t ∈ opnds l → t ∈ opnds l := fun h => h
theorem look_pkV_mem {vs : List (Nat × EV)} {t : Nat} : ∀ {l : List Nat}, t ∈ l → look EV.any (pkV vs l) t = look EV.any vs t
  | s :: l, h => by
    simp only [pkV, look_cons]
    split
    · next e => subst e; rfl
    · next e =>
      rcases List.mem_cons.1 h with h | h
      · exact absurd h.symm e
      · exact look_pkV_mem h
theorem look_pkV_not {vs : List (Nat × EV)} {t : Nat} : ∀ {l : List Nat}, t ∉ l → look EV.any (pkV vs l) t = .any
  | [], _ => rfl
  | s :: l, h => by
    simp only [pkV, look_cons]
    simp only [List.mem_cons, not_or] at h
    rw [if_neg (fun e => h.1 e.symm)]
    exact look_pkV_not h.2
theorem look_pkH_mem {hp : List (Nat × EB)} {t : Nat} : ∀ {l : List Nat}, t ∈ l → look EB.dead (pkH hp l) t = look EB.dead hp t
  | s :: l, h => by
    simp only [pkH, look_cons]
    split
    · next e => subst e; rfl
    · next e =>
      rcases List.mem_cons.1 h with h | h
      · exact absurd h.symm e
      · exact look_pkH_mem h
theorem look_pkH_not {hp : List (Nat × EB)} {t : Nat} : ∀ {l : List Nat}, t ∉ l → look EB.dead (pkH hp l) t = .dead
  | [], _ => rfl
  | s :: l, h => by
    simp only [pkH, look_cons]
    simp only [List.mem_cons, not_or] at h
    rw [if_neg (fun e => h.1 e.symm)]
    exact look_pkH_not h.2
theorem sub_of {cur st : ES} {rd tb : List Nat} (h1 : ∀ s ∈ rd, look EV.any st.slots s = look EV.any cur.slots s) (h2 : ∀ r ∈ tb, look EB.dead st.heap r = look EB.dead cur.heap r) : Sub (pkV cur.slots rd) (pkH cur.heap tb) st := by
  refine ⟨fun x => ?_, fun r => ?_⟩
  · cases x with
    | tmp t =>
      show look EV.any (pkV cur.slots rd) t = .any ∨ look EV.any st.slots t = look EV.any (pkV cur.slots rd) t
      by_cases h : t ∈ rd
      · exact .inr (by rw [look_pkV_mem h, h1 t h])
      · exact .inl (look_pkV_not h)
    | const c => exact .inr rfl
    | func f => exact .inr rfl
    | global g => exact .inl rfl
  · show look EB.dead (pkH cur.heap tb) r = .dead ∨ look EB.dead st.heap r = look EB.dead (pkH cur.heap tb) r
    by_cases h : r ∈ tb
    · exact .inr (by rw [look_pkH_mem h, h2 r h])
    · exact .inl (look_pkH_not h)
theorem gd_sub {ops : Array Oper} {o : Oper} {l : List Nat} {s : Nat} (h : s ∈ l) : s ∈ gdOf ops o l := by
  unfold gdOf
  split
  · split
    · exact List.mem_cons_of_mem _ h
    · exact h
  · exact h
theorem nwL_of {bs : List (Nat × EB)} {r : Nat} : ∀ {l : List (Nat × EB)}, r ∈ nwL bs l → hasK r l = true ∧ (ob_ bs r).alive = false
  | [], h => by cases h
  | (k, x) :: l, h => by
    unfold nwL at h
    cases ha : (ob_ bs k).alive with
    | true =>
      rw [ha] at h
      have := nwL_of (bs := bs) (l := l) h
      exact ⟨by simp [hasK, this.1], this.2⟩
    | false =>
      rw [ha] at h
      simp only [cond_false, List.mem_cons] at h
      rcases h with rfl | h
      · exact ⟨by simp [hasK], ha⟩
      · have := nwL_of h
        exact ⟨by simp [hasK, this.1], this.2⟩
theorem nwL_key {bs : List (Nat × EB)} {r : Nat} : ∀ {l : List (Nat × EB)}, hasK r l = true → (ob_ bs r).alive = true ∨ r ∈ nwL bs l
  | [], h => by cases h
  | (k, x) :: l, h => by
    simp only [hasK, Bool.or_eq_true] at h
    unfold nwL
    rcases h with h | h
    · have := nat_eq h; subst this
      cases ha : (ob_ bs k).alive with
      | true => exact .inl rfl
      | false => exact .inr (by simp)
    · rcases nwL_key (bs := bs) h with h1 | h1
      · exact .inl h1
      · refine .inr ?_
        cases ha : (ob_ bs k).alive with
        | true => exact h1
        | false => exact List.mem_cons_of_mem _ h1
theorem frN_of {st : ES} {kp : List Nat} : ∀ {l : List Nat}, frN st kp l = true → ∀ r ∈ l, st.free kp r = true
  | [], _, r, h => by cases h
  | q :: l, h, r, hr => by
    simp only [frN, Bool.and_eq_true] at h
    rcases List.mem_cons.1 hr with e | e
    · rw [e]; exact h.1
    · exact frN_of h.2 r e
theorem hasK_mem' {α : Type} {p : Nat × α} : ∀ {l : List (Nat × α)}, p ∈ l → hasK p.1 l = true
  | q :: l, h => by
    simp only [hasK, Bool.or_eq_true]
    rcases List.mem_cons.1 h with e | e
    · subst e; exact .inl (Nat.beq_refl _)
    · exact .inr (hasK_mem' e)
section
variable {P : Program} {E : Env} {kp : List Nat} {n : Nat} {ops : Array Oper} {tab : TT} {H : Hi}
theorem goD_ok {m i : Nat} {rd tb : List Nat} {es : List EF} {st : ES} {K : List EF → ES → Prop} {R : Option RS} (h : goD kp m i rd tb es st.slots st.heap K R) :
    ∃ R' nw, R = some R' ∧ (∀ c ∈ R'.C, c) ∧ (∀ r ∈ nw, st.free kp r = true ∧ hasK r R'.hp = true) ∧ (∀ r, hasK r R'.hp = true → r ∈ tb ∨ r ∈ nw) ∧ (∀ p ∈ R'.hp, (ob_ (pkH st.heap tb) p.1).alive = true ∨ p.1 ∈ nw) ∧
      pairs m ⟨R'.sl, R'.hp, rd, tb, nw⟩ i es = true ∧ K (⟨R'.sl, R'.hp, rd, tb, nw⟩ :: es) ⟨R'.sl ++ st.slots, R'.hp ++ st.heap⟩ := by
  unfold goD at h
  split at h
  · next C rs rh =>
    rw [appK_eq, List.append_nil, appK_eq, List.append_nil, nwK_eq] at h
    cases hb : frN ⟨st.slots, st.heap⟩ kp (nwL (pkH st.heap tb) rh) && pairs m ⟨rs, rh, rd, tb, nwL (pkH st.heap tb) rh⟩ i es with
    | false => rw [hb] at h; exact h.elim
    | true =>
      rw [hb] at h
      obtain ⟨h1, h2⟩ := obA_ok h
      rw [appK_eq, appK_eq] at h2
      rw [Bool.and_eq_true] at hb
      have hal : ∀ r, (ob_ (pkH st.heap tb) r).alive = true → r ∈ tb := fun r hr => by
        refine Classical.byContradiction fun hn => ?_
        have : ob_ (pkH st.heap tb) r = .dead := look_pkH_not hn
        rw [this] at hr; cases hr
      refine ⟨⟨C, rs, rh⟩, nwL (pkH st.heap tb) rh, rfl, h1, fun r hr => ⟨frN_of hb.1 r hr, (nwL_of hr).1⟩, fun r hr => ?_, fun p hp => nwL_key (hasK_mem' hp), hb.2, h2⟩
      rcases nwL_key (bs := pkH st.heap tb) hr with h3 | h3
      · exact .inl (hal r h3)
      · exact .inr h3
  · exact h.elim
theorem opnds_append : ∀ (l m : List Operand), opnds (l ++ m) = opnds l ++ opnds m
  | [], m => rfl
  | x :: l, m => by cases x <;> simp [opnds, opnds_append l m]
theorem opnds_call {f : FuncId} {a : Array Operand} {T : Array TypeId} {s : Nat} (h : s ∈ opnds a.toList) : s ∈ opnds (Op.call { callee := .value (.func f), args := a, argTypes := T }).operands.toList := by
  simp only [Op.operands, Call.operands, Array.toList_append, opnds_append]
  first
    | exact List.mem_append_right _ h
    | exact List.mem_append_left _ h
    | exact h
theorem drop_cons {α : Type} {l : List α} {i : Nat} {x : α} {r : List α} (h : l.drop i = x :: r) : l[i]? = some x ∧ l.drop (i + 1) = r := by
  have h1 : (l.drop i)[0]? = some x := by rw [h]; rfl
  have h2 : (l.drop i).drop 1 = r := by rw [h]; rfl
  rw [List.getElem?_drop] at h1
  rw [List.drop_drop] at h2
  exact ⟨by simpa using h1, h2⟩
theorem runD_ok (hP : tab.ok P) {mA : List Nat} {b : ES} : ∀ (os : List Oper) (ms : List Nat) (i : Nat) (es : List EF) (st : ES) (K : ES → Prop), runD P kp n tab H ops os ms i es st K →
    ops.toList.drop i = os → mA.drop i = ms → i ≤ ops.size → es.length = i → Good P E kp n ops mA b es → st = allE b es → ∃ es', Good P E kp n ops mA b es' ∧ es'.length = ops.size ∧ K (allE b es')
  | [], ms, i, es, st, K, h, ho, _, hi, hl, hg, hst => by
    unfold runD at h
    subst hst
    refine ⟨es, hg, ?_, h⟩
    have h1 := List.drop_eq_nil_iff.1 ho
    simp at h1
    omega
  | o :: os, [], i, es, st, K, h, _, _, _, _, _, _ => by unfold runD at h; exact h.elim
  | o :: os, m :: ms, i, es, ⟨sl, hp⟩, K, h, ho, hm, hi, hl, hg, hst => by
    unfold runD at h
    let st : ES := ⟨sl, hp⟩
    have hst' : allE b es = st := hst.symm
    obtain ⟨ho1, ho2⟩ := drop_cons ho
    obtain ⟨hm1, hm2⟩ := drop_cons hm
    have hi1 : i < ops.size := by
      have := (List.getElem?_eq_some_iff.1 ho1).1
      simpa using this
    have hoi : ops[i]? = some o := by simpa using ho1
    have hmi : mA.getD i 0 = m := by rw [List.getD_eq_getElem?_getD, hm1]; rfl
    cases hds : isSome' o.dst n with
    | false => rw [hds] at h; exact h.elim
    | true =>
      rw [hds] at h
      simp only [cond_true] at h
      rw [nrmN_eq, nrmN_eq] at h
      generalize hrd : gdOf ops o (opnds o.op.operands.toList) = rd at h
      generalize tbOf sl hp rd o = tb at h
      have hmem : ∀ s ∈ opnds o.op.operands.toList, s ∈ rd := fun s hs => by rw [← hrd]; exact gd_sub hs
      -- an operation that has been computed
      have more : ∀ {R : Option RS}, goD kp m i rd tb es sl hp (fun es' st' => runD P kp n tab H ops os ms (i + 1) es' st' K) R →
          (∀ R', R = some R' → ∀ st2 : ES, Sub (pkV sl rd) (pkH hp tb) st2 → (∀ s ∈ opnds o.op.operands.toList, look EV.any (pkV sl rd) s = look EV.any st2.slots s) → (∀ c ∈ R'.C, c) → (∀ p ∈ R'.hp, (ob_ (pkH hp tb) p.1).alive = true ∨ st2.free kp p.1 = true) → Step P E kp n ops o st2.as (R'.app st2).as) →
          ∃ es', Good P E kp n ops mA b es' ∧ es'.length = ops.size ∧ K (allE b es') := fun {R} hgo hstep => by
        obtain ⟨R', nw, e1, hC, hnw, hkey, hal, hpr, hk⟩ := goD_ok (st := st) hgo
        refine runD_ok hP os ms (i + 1) _ _ K hk ho2 hm2 hi1 (by simp [hl]) ⟨hg, fun o' ho' => ?_, by rw [hl, hmi]; exact hpr⟩ ?_
        · rw [hl, hoi] at ho'
          cases ho'
          rw [hst']
          refine ⟨fun st2 h1 h2 h3 => ?_, hnw, hkey⟩
          refine hstep R' e1 st2 (sub_of h1 h2) (fun s hs => ?_) hC (fun p hp' => ?_)
          · rw [look_pkV_mem (hmem s hs)]; exact (h1 s (hmem s hs)).symm
          · rcases hal p hp' with h4 | h4
            · exact .inl h4
            · exact .inr (h3 _ h4)
        · show (⟨R'.sl ++ st.slots, R'.hp ++ st.heap⟩ : ES) = ⟨R'.sl ++ (allE b es).slots, R'.hp ++ (allE b es).heap⟩
          rw [hst']
      split at h
      · next f args hc =>
        obtain ⟨a, T, hop, ha⟩ := callOf_eq hc
        obtain ⟨dst, op, ty, ps, af, gd⟩ := o
        simp only at hop h hds
        subst hop ha
        split at h
        · obtain ⟨hin, as, hout, res, hev, h⟩ := h
          exact more h fun R' e1 st2 S hv hC hf => callF_ok S hev.1 hev.2 e1 hC hf (isSome_of hds)
        · next j want =>
          split at h
          · next d c hgb =>
            obtain ⟨as, res, h⟩ := h
            split at h
            · next C hfit =>
              cases hch : res.av.inH [] && inDL [] (avL as) && res.av.inD [] with
              | false => rw [hch] at h; exact h.elim
              | true =>
                rw [hch] at h
                obtain ⟨h1, h2⟩ := h
                obtain ⟨h3, h2⟩ := obA_ok h2
                exact more h2 fun R' e1 st2 S hv hC hf => by
                  cases e1
                  exact gcall_ok S (fun s hs => hv s (opnds_call hs)) hgb hds hfit hch h1 h3
            · exact h.elim
          · exact h.elim
      · split at h
        · exact h.elim
        · exact more h fun R' e1 st2 S hv hC hf => stepF_ok S hv hP e1 hC hf hds
def DD (P : Program) (kp : List Nat) (n : Nat) (tab : TT) (H : Hi) : Nat → Array Oper → ES → (ES → Prop) → Prop :=
  fun _ ops st K => ∃ ms : List Nat, masksOk ops ms ops.size = true ∧ runD P kp n tab H ops ops.toList ms 0 [] st K
theorem DD_ok (hP : tab.ok P) (hx : P.follows .mixedOrders = true) : DOk P kp n (DD P kp n tab H) := by
  intro E id ops st K Q ⟨ms, h1, h2⟩ hK
  obtain ⟨es, g1, g2, g3⟩ := runD_ok (E := E) (mA := ms) (b := st) hP ops.toList ms 0 [] st K h2 rfl rfl (Nat.zero_le _) rfl trivial rfl
  exact float_ok hx h1 g1 g2 (hK _ g3)
end
end Go.Proofs.Ytnopdnclefopbaa
