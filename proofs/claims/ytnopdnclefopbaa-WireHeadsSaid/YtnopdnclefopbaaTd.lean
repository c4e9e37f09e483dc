/- The walk by computation: results, and contracts. It names no function of the program. -/
import Derived.Test.YtnopdnclefopbaaTc
namespace Go.Proofs.Ytnopdnclefopbaa
open Go.RowKit
set_option linter.unusedVariables false
set_option linter.unusedSimpArgs false

/-- The results, as the function's end has them. -/
def resV (tab : TT) (st : ES) : List ResultVar → Option (List EV)
  | [] => some []
  | .tmp t :: l => match resV tab st l with
    | some m => some (look .any st.slots t :: m)
    | none => none
  | .cell c T :: l => match look .any st.slots c with
    | .own r off => match ob_ st.heap r with
      | .bz n f _ => match tab.find T with
        | some ti => bif ti.agg && Nat.beq off 0 && Nat.beq ti.sz n then (match resV tab st l with
          | some m => some (.az n f :: m)
          | none => none) else none
        | none => none
      | .box cells _ => match tab.find T with
        | some ti => match getE ti true off cells with
          | some (_, x) => match resV tab st l with
            | some m => some (x :: m)
            | none => none
          | none => none
        | none => none
      | _ => none
    | _ => none
def oneV : List EV → EV
  | [x] => x
  | l => .tup l
/-- The kept names that are spoken of at the end. -/
def idK (hout : List (Nat × EB)) : List Nat → List (Nat × Nat)
  | [] => []
  | q :: l => bif hasK q hout then (q, q) :: idK hout l else idK hout l
/-- What is to be shown at a function's end. -/
def RetG (tab : TT) (kp : List Nat) (rs : List ResultVar) (hout : List (Nat × EB)) (res : EV) (st : ES) : Prop :=
  match resV tab st rs with
  | none => False
  | some l => match cvE st.heap (oneV l) res with
    | none => False
    | some (C0, z, F) => match fit (idK hout kp) z res with
      | none => False
      | some (C1, τ) => match fitH (F ++ st.heap) τ hout with
        | none => False
        | some (C2, σ) => bif kpOk kp σ && sgOk (idK hout kp) then obA (C0 ++ (C1 ++ C2)) True else False
section
variable {P : Program} {E : Env} {kp : List Nat} {n : Nat} {tab : TT} {H : Hi}
theorem cell_ok {st : ES} (hP : tab.ok P) {c r off : Nat} {T t : TypeId} {cells : List EV} {ti : TI} {C : List Prop} {x : EV} (hc : look .any st.slots c = .own r off) (hb : ob_ st.heap r = .box cells t) (hti : tab.find T = some ti) (hg : getE ti true off cells = some (C, x)) :
    ResOk P st.as (.cell c T) x.av := by
  have hT := TT.find_ok hP hti
  have hs : Gv (look AV.any st.as.slots c) (.own r off) := by
    have e : look AV.any st.as.slots c = (look EV.any st.slots c).av := look_avs _ _
    rw [e, hc]; exact Gv.r
  have hl : st.as.ob r = .box (avL cells) t := by rw [as_ob]; show (ob_ st.heap r).ob = _; rw [hb]; rfl
  unfold getE at hg
  cases ha : ti.agg with
  | true =>
    rw [ha] at hg
    simp only [cond_true] at hg
    split at hg
    · next l hq =>
      simp only [Bool.true_or, cond_true] at hg; cases hg
      obtain ⟨h1, h2⟩ := tkE_eq hq
      rw [dpE_eq] at h1
      exact ResOk.boxN (l := avL l) hs (by rw [hT.agg, ha]) hT.sz hl (by rw [h1, avL_take, avL_drop]) (by rw [avL_length]; exact h2) Gv.r
    · cases hg
  | false =>
    rw [ha] at hg
    simp only [cond_false] at hg
    split at hg
    · next z hq =>
      simp only [Bool.true_or, cond_true] at hg; cases hg
      rw [nthE_eq] at hq
      exact ResOk.box1 hs (by rw [hT.agg, ha]) hl (by rw [avL_get, hq]; rfl) Gv.r
    · cases hg
theorem resV_ok {st : ES} (hP : tab.ok P) {φ : Ghost} {Pub : Nat → Nat → Prop} {w : World} {a : Act} (I : Inv E kp φ Pub st.as.heap w) (hs : ∀ s, RA w Pub φ (look .any st.as.slots s) (a.tmps.getD s undef)) :
    ∀ {rs : List ResultVar} {l : List EV}, resV tab st rs = some l → ∃ vs : List Value, (rs.mapM (rvRun a.tmps)).run P w = .ok vs w ∧ RAs w Pub φ (avL l) vs
  | [], l, h => by
    unfold resV at h; cases h
    exact ⟨[], by simp, by unfold avL RAs; rfl⟩
  | rv :: rs, l, h => by
    have one : ∀ {x : EV} {m : List EV}, ResOk P st.as rv x.av → resV tab st rs = some m → ∃ vs : List Value, ((rv :: rs).mapM (rvRun a.tmps)).run P w = .ok vs w ∧ RAs w Pub φ (avL (x :: m)) vs := fun {x m} hr hm => by
      obtain ⟨u, hu, hR⟩ := hr E kp a w φ Pub I hs
      obtain ⟨vs, h1, h2⟩ := resV_ok hP I hs hm
      refine ⟨u :: vs, ?_, by unfold avL RAs; exact ⟨u, vs, rfl, hR, h2⟩⟩
      simp [List.mapM_cons, hu, h1]
    cases rv with
    | tmp t =>
      simp only [resV] at h
      split at h
      · next m hm =>
        cases h
        exact one (ResOk.tmp (by
          have e : look AV.any st.as.slots t = (look EV.any st.slots t).av := look_avs _ _
          rw [e]; exact Gv.r)) hm
      · cases h
    | cell c T =>
      simp only [resV] at h
      split at h
      · next r off hc =>
        split at h
        · next m' f t hb =>
          split at h
          · next ti hti =>
            obtain ⟨hg, h⟩ := bif_some h
            split at h
            · next m hm =>
              cases h
              simp only [Bool.and_eq_true] at hg
              have e1 := nat_eq hg.1.2; have e2 := nat_eq hg.2; subst e1
              have hT := TT.find_ok hP hti
              have hs : Gv (look AV.any st.as.slots c) (.own r 0) := by
                have e : look AV.any st.as.slots c = (look EV.any st.slots c).av := look_avs _ _
                rw [e, hc]; exact Gv.r
              have hl : st.as.ob r = .box ((azC m' f).map AV.p) t := by rw [as_ob]; show (ob_ st.heap r).ob = _; rw [hb]; rfl
              exact one (x := .az m' f) (ResOk.boxN (l := (azC m' f).map AV.p) hs (by rw [hT.agg, hg.1.1]) hT.sz hl (by rw [e2, List.drop_zero, List.take_of_length_le (by simp)]) (by simp [e2]) Gv.agg) hm
            · cases h
          · cases h
        · next cells t hb =>
          split at h
          · next ti hti =>
            split at h
            · next C x hg =>
              split at h
              · next m hm => cases h; exact one (cell_ok hP hc hb hti hg) hm
              · cases h
            · cases h
          · cases h
        · cases h
      · cases h
theorem RetG_ok {st : ES} (hP : tab.ok P) {fn : Func} {rs : List ResultVar} {hout : List (Nat × EB)} {res : EV} (hr : fn.results = rs.toArray) (h : RetG tab kp rs hout res st) : To E kp n (bodyPost P fn (EvPost E kp (obs hout) res.av)) .ret st.as := by
  rintro a w ⟨φ, Pub, I, h0, hn, hs⟩
  unfold RetG at h
  split at h
  · exact h.elim
  · next l hl =>
    split at h
    · exact h.elim
    · next C0 z F hcv =>
      split at h
      · exact h.elim
      · next C1 τ hfit =>
        split at h
        · exact h.elim
        · next C2 σ hfh =>
          cases hk0 : kpOk kp σ && sgOk (idK hout kp) with
          | false => rw [hk0] at h; exact h.elim
          | true =>
            rw [hk0] at h
            rw [Bool.and_eq_true] at hk0
            have hk := hk0.1
            obtain ⟨hC, _⟩ := obA_ok h
            obtain ⟨vs, h1, h2⟩ := resV_ok hP I hs hl
            -- the value that is returned
            obtain ⟨v, hv, hR⟩ : ∃ v, (results fn a.tmps).run P w = .ok v w ∧ RA w Pub φ (oneV l).av v := by
              have hlen := RAs_length h2
              rw [avL_length] at hlen
              refine ⟨if h : vs.toArray.size = 1 then vs.toArray[0] else .tuple vs.toArray, ?_, ?_⟩
              · rw [results_rv, hr]
                simp [List.mapM_toArray, h1]
              · match l, vs, h2, hlen with
                | [x], [u], h2, _ =>
                  unfold avL RAs at h2
                  obtain ⟨u', us, e, h3, _⟩ := h2
                  cases e
                  simpa [oneV] using h3
                | [], [], h2, _ => simp only [oneV]; unfold EV.av RA; exact ⟨[], by simp, h2⟩
                | x :: y :: l, u :: u' :: us, h2, _ => simp only [oneV]; unfold EV.av RA; exact ⟨u :: u' :: us, by simp, h2⟩
            obtain ⟨f1, Pub', I', H', R'⟩ := cvE_ok (Sub.full st) (F0 := []) res hcv (fun c hc => hC c (List.mem_append_left _ hc)) (fun r e hm => by cases hm) I hR
            rw [List.append_nil] at I'
            obtain ⟨a1, a2, a3⟩ := fit_ok res hfit (fun c hc => hC c (List.mem_append_right _ (List.mem_append_left _ hc)))
            obtain ⟨b1, b2, b3⟩ := fitH_ok hfh (fun c hc => hC c (List.mem_append_right _ (List.mem_append_right _ hc)))
            have ho : sgOk σ = true := b2 (a2 hk0.2)
            obtain ⟨c1, c2⟩ := b3 σ (Ext.refl _)
            refine ⟨h0, v, hv, v, (fun q => if domN q σ = true then φ (sg σ q) else φ q), Pub', rfl, I'.ren ho hk c1 (fun q hq => ?_), ?_⟩
            · have e1 : look OB.dead (obs hout) q = (look EB.dead hout q).ob := look_obs _ _
              have e2 : look OB.dead (obs (F ++ st.heap)) (sg σ q) = (look EB.dead (F ++ st.heap) (sg σ q)).ob := look_obs _ _
              rw [e1, alive_ob] at hq
              rw [e1, e2]; exact c2 q hq
            · exact (RA_sg (ψ := φ) (fun q hq => (if_pos hq).symm) _ _ (fit_inD res hfit σ b1)).1 (a3 σ b1 _ _ _ _ R')
def slE : Nat → List EV → List (Nat × EV)
  | _, [] => []
  | i, x :: xs => (i, x) :: slE (i + 1) xs
theorem slE_avs : ∀ (i : Nat) (l : List EV), avs (slE i l) = slotsOf i (avL l)
  | _, [] => rfl
  | i, x :: xs => by simp only [slE, avs, avL, slotsOf, slE_avs (i + 1) xs]
/-- No region draws its order. -/
def D0 : Nat → Array Oper → ES → (ES → Prop) → Prop := fun _ _ _ _ => False
theorem D0_ok {m : Nat} : DOk P kp m D0 := fun _ _ _ _ _ _ h _ => h.elim
/-- **How a contract is shown.** -/
theorem Cf.intro {f m : Nat} {fn : Func} {c : Code} {rs : List ResultVar} {hin hout : List (Nat × EB)} {as : List EV} {res : EV} (tab : TT) (H : Hi) (D : Nat → Array Oper → ES → (ES → Prop) → Prop) (hcall : callable P f = true) (hP : tab.ok P) (hf : P.funcs[f]? = some fn) (hm : fn.ntmps = m) (hb : fn.body = some c) (hr : fn.results = rs.toArray)
    (hD : DOk P (hin.map (·.1)) m D) (hk : Nat.ble as.length m = true)
    (h : appK (fun sl => wpC P (hin.map (·.1)) m tab H D c (fun e st => match e with | .ret => RetG tab (hin.map (·.1)) rs hout res st | .normal => RetG tab (hin.map (·.1)) rs hout res st | _ => False) ⟨sl, hin⟩) [] (slE 0 as)) : Cf P f hin as hout res := by
  rw [appK_eq, List.append_nil] at h
  refine ⟨hcall, Ev.intro hf hb hm (by rw [avL_length]; exact Nat.le_of_ble_eq_true hk) (fun E => ?_)⟩
  have ek : (obs hin).map (·.1) = hin.map (·.1) := by
    clear h hD
    induction hin with
    | nil => rfl
    | cons p l ih => simp [obs, ih]
  rw [ek, ← slE_avs]
  refine wpC_ok (E := E) hP hD c _ _ ⟨slE 0 as, hin⟩ h fun e st h' => ?_
  cases e with
  | ret => exact RetG_ok hP hr h'
  | normal => exact To.ret_normal (RetG_ok hP hr h')
  | _ => exact h'.elim
end
end Go.Proofs.Ytnopdnclefopbaa
