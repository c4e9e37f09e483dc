/- Contracts over typed values; calls. It names no function of the program. -/
import Derived.Test.YtnopdnclefopbaaTy
namespace Go.Proofs.Ytnopdnclefopbaa
open Go.RowKit
set_option linter.unusedVariables false
set_option linter.unusedSimpArgs false

/-- **The contract of a function**, over typed values. -/
def Ct (P : Program) (f : FuncId) (hin : List (Nat × EB)) (as : List EV) (hout : List (Nat × EB)) (res : EV) : Prop := Ev P f (obs hin) (avL as) (obs hout) res.av

section
variable (hp : List (Nat × EB))
mutual
/-- A result as it is wanted: what is wanted as shared is shared. What is asked for, the value, the blocks that are frozen. -/
def cvE (x : EV) : EV → Option (List Prop × EV × List (Nat × EB))
  | .osl _ _ => some ([], x, [])
  | .own _ _ => some ([], x, [])
  | .any => some ([], x, [])
  | .agg ys => match x with
    | .agg xs => match cvL xs ys with
      | some (C, l, F) => some (C, .agg l, F)
      | none => none
    | _ => none
  | .tup ys => match x with
    | .tup xs => match cvL xs ys with
      | some (C, l, F) => some (C, .tup l, F)
      | none => none
    | _ => none
  | _ => match x with
    | .osl r n => match ob_ hp r with
      | .rb l T _ => some ([n = l.length], .bs l, [(r, .rb l T l.length)])
      | .rz m sz f T _ => some ([n = m], .lz m sz f, [(r, .rz m sz f T (m * sz))])
      | .row cells T sz _ => some ([], .sl cells n, [(r, .row cells T sz cells.length)])
      | _ => none
    | x => some ([], x, [])
def cvL (xs : List EV) : List EV → Option (List Prop × List EV × List (Nat × EB))
  | [] => match xs with
    | [] => some ([], [], [])
    | _ => none
  | y :: ys => match xs with
    | x :: xs => match cvE x y with
      | some (C, z, F) => match cvL xs ys with
        | some (C', l, F') => some (C ++ C', z :: l, F ++ F')
        | none => none
      | none => none
    | [] => none
end
end
def argE (vs : List (Nat × EV)) : List Operand → List EV
  | [] => []
  | x :: xs => evOf vs x :: argE vs xs
section
variable (tab : TT) (vs : List (Nat × EV)) (bs : List (Nat × EB)) (d : Nat)
/-- The arguments of a call; slices of the call's own that are wanted as shared are frozen. -/
def argsF (args : List Operand) (ys : List EV) : Option (List Prop × List EV × List (Nat × EB)) := cvL bs (argE vs args) ys
def nmC (d q : Nat) : Nat := 1000000 + 1000 * d + q
def newN (d : Nat) (σ : List (Nat × Nat)) : List (Nat × EB) → List (Nat × Nat)
  | [] => σ
  | (q, _) :: h => bif domN q σ then newN d σ h else newN d ((q, nmC d q) :: σ) h
def ndK : List (Nat × EB) → Bool
  | [] => true
  | (q, _) :: h => !hasK q h && ndK h
def callChk (hin hout : List (Nat × EB)) (as : List EV) (res : EV) (σ τ : List (Nat × Nat)) : Bool :=
  closedH (obs hin) (obs hin) && sgOk τ && inDL τ (avL as) && inDH τ (obs hin) && inDH τ (obs hout) && res.av.inD τ && closedH (obs hout) (obs hout) && res.av.inH (obs hout) && ndK hin &&
  (σ.all fun p => (look EB.dead hin p.1).alive) && (τ.all fun p => (look EB.dead hin p.1).alive || ((look EB.dead hout p.1).alive && !(ob_ bs p.2).alive))
def callF (dst : Option Nat) (args : List Operand) (hin : List (Nat × EB)) (as : List EV) (hout : List (Nat × EB)) (res : EV) : Option RS :=
  match argsF vs bs args as with
  | none => none
  | some (C0, l, F) => match fitL [] l as with
    | none => none
    | some (C1, τ) => match fitH (F ++ bs) τ hin with
      | none => none
      | some (C2, σ) => match newN (dst.getD 999) σ hout with
        | τ' => bif callChk bs hin hout as res σ τ' then some ⟨C0 ++ (C1 ++ C2), (match dst with | some x => [(x, res.sg τ')] | none => []), sgEH τ' hout ++ (deadE τ' hin ++ F)⟩ else none
end

section
variable {P : Program} {E : Env} {kp : List Nat} {n : Nat} {ops : Array Oper} {d : Nat} {ty : TypeId} {ps : String} {af : Array Edge}
variable {tab : TT} {vs : List (Nat × EV)} {bs : List (Nat × EB)} {st : ES}

/-- Only frozen rows. -/
def Frz (bs : List (Nat × EB)) (hp : List (Nat × EB)) : Prop :=
  ∀ r eb', (r, eb') ∈ hp → ∃ cells T sz p, (ob_ bs r).ob = .row cells T sz p ∧ eb'.ob = .row cells T sz cells.length
theorem look_in {α : Type} {d : α} : ∀ (l m : List (Nat × α)) (s : Nat), look d (l ++ m) s = look d m s ∨ (s, look d (l ++ m) s) ∈ l
  | [], m, s => .inl rfl
  | (k, x) :: l, m, s => by
    rw [List.cons_append, look_cons]
    split
    · next e => subst e; exact .inr (by simp)
    · rcases look_in l m s with h | h
      · exact .inl h
      · exact .inr (List.mem_cons_of_mem _ h)
theorem mem_obs : ∀ {h : List (Nat × EB)} {r : Nat} {x : OB}, (r, x) ∈ obs h → ∃ eb, (r, eb) ∈ h ∧ eb.ob = x
  | (k, y) :: h, r, x, hm => by
    simp only [obs, List.mem_cons] at hm
    rcases hm with e | hm
    · cases e; exact ⟨y, by simp, rfl⟩
    · obtain ⟨eb, h1, h2⟩ := mem_obs hm; exact ⟨eb, List.mem_cons_of_mem _ h1, h2⟩
/-- In a state with some rows frozen, a row is what it was. -/
theorem Frz.look {hp : List (Nat × EB)} (F : Frz bs hp) (S : Sub vs bs st) {r : Nat} {cells : List PV} {T : TypeId} {sz p : Nat} (h : (ob_ bs r).ob = .row cells T sz p) :
    ∃ p', look OB.dead (obs hp ++ obs st.heap) r = .row cells T sz p' := by
  rcases look_in (d := OB.dead) (obs hp) (obs st.heap) r with e | e
  · refine ⟨p, ?_⟩
    rw [e]
    have := S.ob (r := r) rfl (by intro e2; rw [e2] at h; cases h)
    rw [h] at this; exact this
  · obtain ⟨eb, h1, h2⟩ := mem_obs e
    obtain ⟨c, T', s', p', k1, k2⟩ := F r eb h1
    rw [h] at k1; cases k1
    exact ⟨_, by rw [← h2, k2]⟩
theorem argE_eq (vs : List (Nat × EV)) : ∀ args : List Operand, argE vs args = args.map (evOf vs)
  | [] => rfl
  | x :: xs => by simp [argE, argE_eq vs xs]
end
section
variable {E : Env} {kp : List Nat} {st : ES} {vs : List (Nat × EV)} {bs : List (Nat × EB)} {w : World} {φ : Ghost} {Pub0 : Nat → Nat → Prop}
theorem frz_more (S : Sub vs bs st) {r m : Nat} {cells : List PV} {T : TypeId} {sz p : Nat} {eb' : EB} {F : List (Nat × EB)} {u : Value} {y : EV} (fr : Frz bs F) {Pub : Nat → Nat → Prop} (I : Inv E kp φ Pub (obs (F ++ st.heap)) w) (ho : (ob_ bs r).ob = .row cells T sz p) (he : eb'.ob = .row cells T sz cells.length)
    (hy : y.av = .p (.sl cells m)) (hu : RA w Pub φ (.osl r m) u) : Frz bs ((r, eb') :: F) ∧ ∃ Pub', Inv E kp φ Pub' (obs ((r, eb') :: F ++ st.heap)) w ∧ Adv w Pub w Pub' ∧ RA w Pub' φ y.av u := by
  have I2 : Inv E kp φ Pub (obs F ++ obs st.heap) w := by rw [← obs_app]; exact I
  obtain ⟨p', hl⟩ := fr.look S ho
  obtain ⟨Pub', I', H, k1, k2⟩ := I2.share hl (.inl rfl)
  refine ⟨fun r' e' hm => ?_, Pub', ?_, H, ?_⟩
  · rcases List.mem_cons.1 hm with h | h
    · cases h; exact ⟨_, _, _, _, ho, he⟩
    · exact fr r' e' h
  · show Inv E kp φ Pub' ((r, eb'.ob) :: obs (F ++ st.heap)) w
    rw [he, obs_app]; exact I'
  · have k := shA_R k1 k2 (RA_mono H _ _ (fun _ _ => rfl) hu)
    rw [hy]; simpa [shA] using k
theorem cvE_leaf (S : Sub vs bs st) {x z : EV} {C : List Prop} {F F0 : List (Nat × EB)} {u : Value} {Pub : Nat → Nat → Prop}
    (h : (match x with
    | .osl r n => match ob_ bs r with
      | .rb l T _ => some ([n = l.length], EV.bs l, [(r, EB.rb l T l.length)])
      | .rz m sz f T _ => some ([n = m], .lz m sz f, [(r, .rz m sz f T (m * sz))])
      | .row cells T sz _ => some ([], .sl cells n, [(r, .row cells T sz cells.length)])
      | _ => none
    | x => some ([], x, [])) = some (C, z, F)) (hC : ∀ c ∈ C, c) (fr : Frz bs F0) (I : Inv E kp φ Pub (obs (F0 ++ st.heap)) w) (hu : RA w Pub φ x.av u) :
    Frz bs (F ++ F0) ∧ ∃ Pub', Inv E kp φ Pub' (obs (F ++ F0 ++ st.heap)) w ∧ Adv w Pub w Pub' ∧ RA w Pub' φ z.av u := by
  split at h
  · next r m =>
    split at h
    · next l T pub hb =>
      cases h
      have e : m = l.length := hC (m = l.length) (by simp)
      subst e
      exact frz_more S fr I (by rw [hb]; rfl) (by simp [EB.ob]) rfl hu
    · next m' sz f T pub hb =>
      cases h
      have e : m = m' := hC (m = m') (by simp)
      subst e
      exact frz_more S (cells := lzC m sz f) fr I (by rw [hb]; rfl) (by unfold EB.ob; rw [lz_len]) (by simp [EV.av, EV.pv]) hu
    · next cells T sz pub hb =>
      cases h
      exact frz_more S (cells := pvL cells) fr I (by rw [hb]; rfl) (by simp [EB.ob, pvL_length]) rfl hu
    · cases h
  · cases h; exact ⟨fr, Pub, I, Adv.refl _ _, hu⟩
mutual
theorem cvE_ok (S : Sub vs bs st) : ∀ (y : EV) {x z : EV} {C : List Prop} {F F0 : List (Nat × EB)} {u : Value} {Pub : Nat → Nat → Prop}, cvE bs x y = some (C, z, F) → (∀ c ∈ C, c) → Frz bs F0 → Inv E kp φ Pub (obs (F0 ++ st.heap)) w → RA w Pub φ x.av u →
    Frz bs (F ++ F0) ∧ ∃ Pub', Inv E kp φ Pub' (obs (F ++ F0 ++ st.heap)) w ∧ Adv w Pub w Pub' ∧ RA w Pub' φ z.av u
  | .osl _ _, x, z, C, F, F0, u, Pub, h, hC, fr, I, hu => by
    unfold cvE at h; cases h; exact ⟨fr, Pub, I, Adv.refl _ _, hu⟩
  | .own _ _, x, z, C, F, F0, u, Pub, h, hC, fr, I, hu => by
    unfold cvE at h; cases h; exact ⟨fr, Pub, I, Adv.refl _ _, hu⟩
  | .agg ys, x, z, C, F, F0, u, Pub, h, hC, fr, I, hu => by
    unfold cvE at h
    split at h
    · next xs =>
      split at h
      · next C' l F' hl =>
        cases h
        unfold EV.av RA at hu
        obtain ⟨vs, e, hu⟩ := hu
        obtain ⟨f1, Pub', I', H, hR⟩ := cvL_ok S ys hl hC fr I hu
        exact ⟨f1, Pub', I', H, by unfold EV.av RA; exact ⟨vs, e, hR⟩⟩
      · cases h
    · cases h
  | .tup ys, x, z, C, F, F0, u, Pub, h, hC, fr, I, hu => by
    unfold cvE at h
    split at h
    · next xs =>
      split at h
      · next C' l F' hl =>
        cases h
        unfold EV.av RA at hu
        obtain ⟨vs, e, hu⟩ := hu
        obtain ⟨f1, Pub', I', H, hR⟩ := cvL_ok S ys hl hC fr I hu
        exact ⟨f1, Pub', I', H, by unfold EV.av RA; exact ⟨vs, e, hR⟩⟩
      · cases h
    · cases h
  | .v _, x, z, C, F, F0, u, Pub, h, hC, fr, I, hu => by unfold cvE at h; exact cvE_leaf S h hC fr I hu
  | .u8 _, x, z, C, F, F0, u, Pub, h, hC, fr, I, hu => by unfold cvE at h; exact cvE_leaf S h hC fr I hu
  | .u32 _, x, z, C, F, F0, u, Pub, h, hC, fr, I, hu => by unfold cvE at h; exact cvE_leaf S h hC fr I hu
  | .u64 _, x, z, C, F, F0, u, Pub, h, hC, fr, I, hu => by unfold cvE at h; exact cvE_leaf S h hC fr I hu
  | .az _ _, x, z, C, F, F0, u, Pub, h, hC, fr, I, hu => by unfold cvE at h; exact cvE_leaf S h hC fr I hu
  | .bs _, x, z, C, F, F0, u, Pub, h, hC, fr, I, hu => by unfold cvE at h; exact cvE_leaf S h hC fr I hu
  | .lz _ _ _, x, z, C, F, F0, u, Pub, h, hC, fr, I, hu => by unfold cvE at h; exact cvE_leaf S h hC fr I hu
  | .pp _ _, x, z, C, F, F0, u, Pub, h, hC, fr, I, hu => by unfold cvE at h; exact cvE_leaf S h hC fr I hu
  | .pb _ _, x, z, C, F, F0, u, Pub, h, hC, fr, I, hu => by unfold cvE at h; exact cvE_leaf S h hC fr I hu
  | .pz _ _ _ _ _, x, z, C, F, F0, u, Pub, h, hC, fr, I, hu => by unfold cvE at h; exact cvE_leaf S h hC fr I hu
  | .raw _, x, z, C, F, F0, u, Pub, h, hC, fr, I, hu => by unfold cvE at h; exact cvE_leaf S h hC fr I hu
  | .sl _ _, x, z, C, F, F0, u, Pub, h, hC, fr, I, hu => by unfold cvE at h; exact cvE_leaf S h hC fr I hu
  | .po _ _ _ _, x, z, C, F, F0, u, Pub, h, hC, fr, I, hu => by unfold cvE at h; exact cvE_leaf S h hC fr I hu
  | .cnd _ _, x, z, C, F, F0, u, Pub, h, hC, fr, I, hu => by unfold cvE at h; exact cvE_leaf S h hC fr I hu
  | .any, x, z, C, F, F0, u, Pub, h, hC, fr, I, hu => by
    unfold cvE at h; cases h; exact ⟨fr, Pub, I, Adv.refl _ _, hu⟩
theorem cvL_ok (S : Sub vs bs st) : ∀ (ys : List EV) {xs l : List EV} {C : List Prop} {F F0 : List (Nat × EB)} {us : List Value} {Pub : Nat → Nat → Prop}, cvL bs xs ys = some (C, l, F) → (∀ c ∈ C, c) → Frz bs F0 → Inv E kp φ Pub (obs (F0 ++ st.heap)) w → RAs w Pub φ (avL xs) us →
    Frz bs (F ++ F0) ∧ ∃ Pub', Inv E kp φ Pub' (obs (F ++ F0 ++ st.heap)) w ∧ Adv w Pub w Pub' ∧ RAs w Pub' φ (avL l) us
  | [], xs, l, C, F, F0, us, Pub, h, hC, fr, I, hu => by
    unfold cvL at h
    split at h
    · cases h; exact ⟨fr, Pub, I, Adv.refl _ _, hu⟩
    · cases h
  | y :: ys, xs, l, C, F, F0, us, Pub, h, hC, fr, I, hu => by
    unfold cvL at h
    split at h
    · next x xs' =>
      split at h
      · next C1 z F1 h1 =>
        split at h
        · next C2 l2 F2 h2 =>
          cases h
          unfold avL RAs at hu
          obtain ⟨u, us', e, hu1, hu2⟩ := hu
          obtain ⟨f1, P1, I1, H1, R1⟩ := cvL_ok S ys h2 (fun c hc => hC c (List.mem_append_right _ hc)) fr I hu2
          obtain ⟨f2, P2, I2, H2, R2⟩ := cvE_ok S y h1 (fun c hc => hC c (List.mem_append_left _ hc)) f1 I1 (RA_mono H1 _ _ (fun _ _ => rfl) hu1)
          rw [← List.append_assoc] at f2 I2
          refine ⟨f2, P2, I2, H1.trans H2, ?_⟩
          unfold avL RAs
          exact ⟨u, us', e, R2, RAs_mono H2 _ _ (fun _ _ => rfl) R1⟩
        · cases h
      · cases h
    · cases h
end
end
section
variable {P : Program} {E : Env} {kp : List Nat} {n : Nat} {ops : Array Oper} {d : Nat} {ty : TypeId} {ps : String} {af : Array Edge}
variable {tab : TT} {vs : List (Nat × EV)} {bs : List (Nat × EB)} {st : ES}
theorem argsF_ok (S : Sub vs bs st) {a : Act} {w : World} {φ : Ghost} {Pub : Nat → Nat → Prop} (I : Inv E kp φ Pub st.as.heap w) (hs : ∀ s, RA w Pub φ (look .any st.as.slots s) (a.tmps.getD s undef)) {args : List Operand} {as l : List EV} {C : List Prop} {hp : List (Nat × EB)} (h : argsF vs bs args as = some (C, l, hp)) (hC : ∀ c ∈ C, c) :
    Frz bs hp ∧ ∃ Pub', Inv E kp φ Pub' (obs (hp ++ st.heap)) w ∧ Adv w Pub w Pub' ∧ RAs w Pub' φ (avL l) (args.map a.eval) := by
  have hx : ∀ args : List Operand, RAs w Pub φ (avL (argE vs args)) (args.map a.eval) := by
    intro args
    induction args with
    | nil => simp only [argE, avL, List.map_nil]; unfold RAs; rfl
    | cons x xs ih =>
      simp only [argE, avL, List.map_cons]; unfold RAs
      exact ⟨_, _, rfl, S.v x _ _ _ _ (ev_R (h := st.as.heap) hs x), ih⟩
  obtain ⟨f1, Pub', I', H, hR⟩ := cvL_ok S (F0 := []) as h hC (fun r e hm => by cases hm) I (hx args)
  rw [List.append_nil] at f1 I'
  exact ⟨f1, Pub', I', H, hR⟩
theorem hasK_deadE {σ : List (Nat × Nat)} {r : Nat} : ∀ {h : List (Nat × EB)}, hasK r (deadE σ h) = hasK r (sgEH σ h)
  | [] => rfl
  | (q, x) :: h => by simp only [deadE, sgEH, hasK, hasK_deadE (h := h)]
theorem ndK_look : ∀ {h : List (Nat × EB)} {q : Nat} {x : EB}, ndK h = true → (q, x) ∈ h → look EB.dead h q = x
  | (k, y) :: h, q, x, hn, hm => by
    simp only [ndK, Bool.and_eq_true, Bool.not_eq_true'] at hn
    rw [look_cons]
    rcases List.mem_cons.1 hm with e | e
    · cases e; rw [if_pos rfl]
    · have : k ≠ q := fun e2 => by
        subst e2
        have : hasK k h = true := by
          clear hn hm
          induction h with
          | nil => cases e
          | cons p h ih =>
            rcases List.mem_cons.1 e with e | e
            · subst e; simp [hasK]
            · simp [hasK, ih e]
        rw [hn.1] at this; cases this
      rw [if_neg this]; exact ndK_look hn.2 e
theorem noDead_of {h : List (Nat × EB)} {σ : List (Nat × Nat)} (k : ∀ q, (look EB.dead h q).alive = true → True) : True := trivial
/-- Blocks are said as a contract has them. -/
theorem wk_blocks {φ : Ghost} {Pub : Nat → Nat → Prop} {w : World} {h : List (Nat × OB)} {σ : List (Nat × Nat)} {hin : List (Nat × OB)} (I : Inv E kp φ Pub h w) (ho : sgOk σ = true) (hi : inDH σ hin = true)
    (hb : ∀ q, (look OB.dead hin q).alive = true → HpImp (look OB.dead h (sg σ q)) ((look OB.dead hin q).sg σ)) (hall : ∀ q x, (q, x) ∈ hin → (look OB.dead hin q).alive = true) : Inv E kp φ Pub (sgH σ hin ++ h) w := by
  have cas : ∀ r, look OB.dead (sgH σ hin ++ h) r = look OB.dead h r ∨ ∃ q, r = sg σ q ∧ (look OB.dead hin q).alive = true ∧ look OB.dead (sgH σ hin ++ h) r = (look OB.dead hin q).sg σ := fun r => by
    rw [look_app]
    cases hk : hasK r (sgH σ hin) with
    | false => rw [if_neg (by simp)]; exact .inl rfl
    | true =>
      rw [if_pos rfl]
      -- r is a name of the contract's, turned
      have : ∃ q x, (q, x) ∈ hin ∧ r = sg σ q := by
        clear hb hall hi I
        induction hin with
        | nil => cases hk
        | cons p hin ih =>
          obtain ⟨q, x⟩ := p
          simp only [sgH, hasK, Bool.or_eq_true] at hk
          rcases hk with hk | hk
          · exact ⟨q, x, by simp, (nat_eq hk).symm⟩
          · obtain ⟨q', x', h1, h2⟩ := ih hk; exact ⟨q', x', List.mem_cons_of_mem _ h1, h2⟩
      obtain ⟨q, x, hm, rfl⟩ := this
      have hal := hall q x hm
      exact .inr ⟨q, rfl, hal, look_sgH ho ((inDH_look hi).2 hal) hi⟩
  refine I.next rfl rfl rfl (Nat.le_refl _) (fun _ _ _ => rfl) (Adv.refl _ _) (fun _ _ hp => .inl hp) I.publ (fun r hr => ?_) (fun r b c hr => ?_) (fun r r' b c c' hr hr' => ?_) (fun _ _ => rfl)
  · rcases cas r with e | ⟨q, rfl, h1, h2⟩
    · rw [e]; exact I.own r
    · rw [h2]; exact (hb q h1).2 w Pub φ _ (I.own _)
  · rcases cas r with e | ⟨q, rfl, h1, h2⟩
    · rw [e] at hr; exact I.mine r b c hr
    · exact I.mine _ b c (hb q h1).1
  · have al : ∀ r, (look OB.dead (sgH σ hin ++ h) r).alive = true → (look OB.dead h r).alive = true := fun r hr => by
      rcases cas r with e | ⟨q, rfl, h1, h2⟩
      · rw [e] at hr; exact hr
      · exact (hb q h1).1
    exact I.inj r r' b c c' (al r hr) (al r' hr')
theorem newN_ext (d : Nat) : ∀ (h : List (Nat × EB)) (σ : List (Nat × Nat)), Ext (newN d σ h) σ
  | [], σ => Ext.refl _
  | (q, x) :: h, σ => by
    unfold newN
    cases hd : domN q σ with
    | true => exact newN_ext d h σ
    | false =>
      refine (newN_ext d h _).trans (fun p hp => ?_)
      have hne : q ≠ p := fun e => by subst e; rw [hd] at hp; cases hp
      refine ⟨by simp [domN, hp], ?_⟩
      unfold sg; rw [look_cons, if_neg hne]
theorem newOk_mk {st : AS} {kp : List Nat} {hin : List (Nat × OB)} : ∀ {σ : List (Nat × Nat)}, (∀ p ∈ σ, (look OB.dead hin p.1).alive = true ∨ st.free kp p.2 = true) → newOk st kp hin σ = true
  | [], _ => rfl
  | (q, x) :: σ, h => by
    simp only [newOk, Bool.and_eq_true, Bool.or_eq_true]
    exact ⟨h (q, x) (by simp), newOk_mk fun p hp => h p (List.mem_cons_of_mem _ hp)⟩
theorem mem_sgEH {σ : List (Nat × Nat)} {q : Nat} {x : EB} : ∀ {h : List (Nat × EB)}, (q, x) ∈ h → (sg σ q, x.sg σ) ∈ sgEH σ h
  | (k, y) :: h, hm => by
    rcases List.mem_cons.1 hm with e | e
    · cases e; simp [sgEH]
    · simp only [sgEH]; exact List.mem_cons_of_mem _ (mem_sgEH e)
theorem look_memE : ∀ {l : List (Nat × EB)} {r : Nat}, (look EB.dead l r).alive = true → (r, look EB.dead l r) ∈ l
  | [], r, h => by simp [look, EB.alive] at h
  | (k, x) :: l, r, h => by
    rw [look_cons] at h ⊢
    by_cases e : k = r
    · subst e; rw [if_pos rfl]; simp
    · rw [if_neg e] at h ⊢; exact List.mem_cons_of_mem _ (look_memE h)
theorem mem_obs' {r : Nat} {x : EB} : ∀ {h : List (Nat × EB)}, (r, x) ∈ h → (r, x.ob) ∈ obs h
  | (k, y) :: h, hm => by
    rcases List.mem_cons.1 hm with e | e
    · cases e; simp [obs]
    · simp only [obs]; exact List.mem_cons_of_mem _ (mem_obs' e)
theorem hasK_mem {α : Type} {r : Nat} {x : α} : ∀ {l : List (Nat × α)}, (r, x) ∈ l → hasK r l = true
  | (k, y) :: l, hm => by
    rcases List.mem_cons.1 hm with e | e
    · cases e; simp [hasK]
    · simp [hasK, hasK_mem e]
mutual
theorem has_sg (σ : List (Nat × Nat)) (r : Nat) : ∀ x : AV, (x.sg σ).has r = true → ∃ q, x.has q = true ∧ sg σ q = r
  | .p x, h => by unfold AV.sg AV.has at h; cases h
  | .agg l, h => by
    unfold AV.sg AV.has at h
    obtain ⟨q, h1, h2⟩ := has_sgL σ r l h
    exact ⟨q, by unfold AV.has; exact h1, h2⟩
  | .tup l, h => by
    unfold AV.sg AV.has at h
    obtain ⟨q, h1, h2⟩ := has_sgL σ r l h
    exact ⟨q, by unfold AV.has; exact h1, h2⟩
  | .own q off, h => by unfold AV.sg AV.has at h; exact ⟨q, by unfold AV.has; simp, nat_eq h⟩
  | .osl q m, h => by unfold AV.sg AV.has at h; exact ⟨q, by unfold AV.has; simp, nat_eq h⟩
  | .cnd g x, h => by
    unfold AV.sg AV.has at h
    obtain ⟨q, h1, h2⟩ := has_sg σ r x h
    exact ⟨q, by unfold AV.has; exact h1, h2⟩
  | .any, h => by unfold AV.sg AV.has at h; cases h
theorem has_sgL (σ : List (Nat × Nat)) (r : Nat) : ∀ l : List AV, hasL r (sgL σ l) = true → ∃ q, hasL q l = true ∧ sg σ q = r
  | [], h => by unfold sgL hasL at h; cases h
  | x :: xs, h => by
    unfold sgL hasL at h
    rw [Bool.or_eq_true] at h
    rcases h with h | h
    · obtain ⟨q, h1, h2⟩ := has_sg σ r x h
      exact ⟨q, by unfold hasL; rw [h1]; rfl, h2⟩
    · obtain ⟨q, h1, h2⟩ := has_sgL σ r xs h
      exact ⟨q, by unfold hasL; rw [h1, Bool.or_true], h2⟩
end
theorem hHas_sgH {σ : List (Nat × Nat)} {r : Nat} {H : List (Nat × OB)} : ∀ {h : List (Nat × OB)}, closedH H h = true → hHas r (sgH σ h) = true → ∃ q, (look OB.dead H q).alive = true ∧ sg σ q = r
  | [], _, h => by cases h
  | (k, .box cells t) :: h, hc, hh => by
    simp only [closedH, Bool.and_eq_true] at hc
    simp only [sgH, hHas, Bool.or_eq_true] at hh
    rcases hh with hh | hh
    · obtain ⟨q, h1, h2⟩ := has_sgL σ r cells hh
      exact ⟨q, inHL_has cells hc.1 h1, h2⟩
    · exact hHas_sgH hc.2 hh
  | (k, .row _ _ _ _) :: h, hc, hh => by
    simp only [closedH] at hc
    simp only [sgH, hHas, OB.sg, OB.has, Bool.false_or] at hh
    exact hHas_sgH hc hh
  | (k, .dead) :: h, hc, hh => by simp [closedH] at hc
theorem hasK_sgH_of {σ : List (Nat × Nat)} {r : Nat} : ∀ {h : List (Nat × OB)}, hasK r (sgH σ h) = true → ∃ q x, (q, x) ∈ h ∧ sg σ q = r
  | [], hk => by cases hk
  | (q, x) :: h, hk => by
    simp only [sgH, hasK, Bool.or_eq_true] at hk
    rcases hk with hk | hk
    · exact ⟨q, x, by simp, nat_eq hk⟩
    · obtain ⟨q', x', h1, h2⟩ := hasK_sgH_of hk; exact ⟨q', x', List.mem_cons_of_mem _ h1, h2⟩
theorem hasK_dead_sg {σ : List (Nat × Nat)} {r : Nat} : ∀ {h : List (Nat × OB)}, hasK r (deadH σ h) = hasK r (sgH σ h)
  | [] => rfl
  | (q, x) :: h => by simp only [deadH, sgH, hasK, hasK_dead_sg (h := h)]
theorem hHas_obs_row {r : Nat} {hp : List (Nat × EB)} (F : Frz bs hp) : hHas r (obs hp) = false := by
  induction hp with
  | nil => rfl
  | cons p hp ih =>
    obtain ⟨q, eb⟩ := p
    obtain ⟨c, T, sz, p', _, k2⟩ := F q eb (by simp)
    simp only [obs, hHas, k2, OB.has, Bool.false_or]
    exact ih fun r' e' hm => F r' e' (List.mem_cons_of_mem _ hm)
theorem hasK_obs {r : Nat} : ∀ {F : List (Nat × EB)}, hasK r (obs F) = true → ∃ eb, (r, eb) ∈ F
  | [], h => by cases h
  | (q, x) :: F, h => by
    simp only [obs, hasK, Bool.or_eq_true] at h
    rcases h with h | h
    · exact ⟨x, by rw [← nat_eq h]; simp⟩
    · obtain ⟨eb, h1⟩ := hasK_obs h; exact ⟨eb, List.mem_cons_of_mem _ h1⟩
theorem sg_mem : ∀ {σ : List (Nat × Nat)} {p : Nat × Nat}, sgOk σ = true → p ∈ σ → sg σ p.1 = p.2 := fun ho hp => sg_self ho _ hp
/-- **A call.** -/
theorem callF_ok {f : FuncId} {dst : Option Nat} {args : Array Operand} {argTypes : Array TypeId} {hin hout : List (Nat × EB)} {as : List EV} {res : EV} {R : RS} (S : Sub vs bs st) (hc : callable P f = true) (hev : Ct P f hin as hout res)
    (h : callF vs bs dst args.toList hin as hout res = some R) (hC : ∀ c ∈ R.C, c) (hf : ∀ p ∈ R.hp, (ob_ bs p.1).alive = true ∨ st.free kp p.1 = true) (hd : ∀ x, dst = some x → Nat.blt x n = true) :
    Step P E kp n ops ⟨dst, .call { callee := .value (.func f), args := args, argTypes }, ty, ps, af, none⟩ st.as (R.app st).as := by
  unfold callF at h
  split at h
  · cases h
  · next C0 l F h0 =>
    split at h
    · cases h
    · next C1 τ h1 =>
      split at h
      · cases h
      · next C2 σ h2 =>
        simp only at h
        generalize hτ : newN (dst.getD 999) σ hout = τ' at h
        cases hk : callChk bs hin hout as res σ τ' with
        | false => rw [hk] at h; cases h
        | true =>
          rw [hk] at h
          simp only [cond_true] at h
          cases h
          have hC0 : ∀ c ∈ C0, c := fun c hc => hC c (List.mem_append_left _ hc)
          have hC1 : ∀ c ∈ C1, c := fun c hc => hC c (List.mem_append_right _ (List.mem_append_left _ hc))
          have hC2 : ∀ c ∈ C2, c := fun c hc => hC c (List.mem_append_right _ (List.mem_append_right _ hc))
          unfold callChk at hk
          simp only [Bool.and_eq_true] at hk
          obtain ⟨⟨⟨⟨⟨⟨⟨⟨⟨⟨k0, k1⟩, k2⟩, k3⟩, k4⟩, k5⟩, k6⟩, k7⟩, k8⟩, k9⟩, k10⟩ := hk
          obtain ⟨a1, a2, a3⟩ := fitL_ok as h1 hC1
          obtain ⟨b1, b2, b3⟩ := fitH_ok h2 hC2
          have eσ : Ext τ' σ := by rw [← hτ]; exact newN_ext _ _ _
          obtain ⟨c1, c2⟩ := b3 τ' eσ
          intro a w K Q ⟨φ, Pub, I, h0', hn, hs⟩ hK
          rw [if_pos (by rfl)]
          obtain ⟨f1, Pub', I', H, hA⟩ := argsF_ok S I hs h0 hC0
          have hall : ∀ q x, (q, x) ∈ obs hin → (look OB.dead (obs hin) q).alive = true := fun q x hm => by
            obtain ⟨eb, m1, m2⟩ := mem_obs hm
            rw [look_obs, alive_ob, ndK_look k8 m1]
            have hd' : ∀ (l : List (Nat × EB)) (T T' : List (Nat × Nat)) (C : List Prop), fitH (F ++ bs) T l = some (C, T') → (q, eb) ∈ l → eb.alive = true := by
              intro l
              induction l with
              | nil => intro _ _ _ _ hm; cases hm
              | cons p l ih =>
                intro T T' C hh hm
                obtain ⟨q0, y⟩ := p
                unfold fitH at hh
                cases hdm : domN q0 T with
                | false => rw [hdm] at hh; cases hh
                | true =>
                  rw [hdm] at hh
                  simp only [cond_true] at hh
                  split at hh
                  · next Ca Ta hfa =>
                    split at hh
                    · next Cb Tb hfb =>
                      rcases List.mem_cons.1 hm with e | e
                      · cases e
                        cases eb <;> first | rfl | (simp only [fitB] at hfa; cases hfa)
                      · exact ih _ _ _ hfb e
                    · cases hh
                  · cases hh
            exact hd' hin _ _ _ h2 m1
          have I1 : Inv E kp φ Pub' (sgH τ' (obs hin) ++ obs (F ++ st.heap)) w := by
            refine wk_blocks I' k1 c1 (fun q hq => ?_) hall
            have e1 : look OB.dead (obs hin) q = (look EB.dead hin q).ob := look_obs _ _
            rw [e1, alive_ob] at hq
            have g := c2 q hq
            rw [e1]
            -- what is seen of the state is the state's
            have e2 : (look EB.dead (F ++ bs) (sg τ' q)).ob = look OB.dead (obs (F ++ st.heap)) (sg τ' q) := by
              have g1 := g.1
              rw [obs_app, ← look_obs, obs_app, look_app, look_app]
              cases hkk : hasK (sg τ' q) (obs F) with
              | true => rw [if_pos rfl, if_pos rfl]
              | false =>
                rw [if_neg (by simp), if_neg (by simp)]
                have e3 : look OB.dead (obs bs) (sg τ' q) = (ob_ bs (sg τ' q)).ob := look_obs _ _
                rw [e3]
                have hne : ob_ bs (sg τ' q) ≠ .dead := fun e4 => by
                  rw [← look_obs, obs_app, look_app, if_neg (by rw [hkk]; simp), e3, e4] at g1; cases g1
                exact (S.ob rfl hne).symm
            rw [← e2]; exact g
          have hA' : RAs w Pub' φ (sgL τ' (avL as)) (args.toList.map a.eval) := (a3 τ' (eσ.trans b1)).R hA
          have hsame : ∀ (l : List (Nat × EB)), (∀ q x, (q, x) ∈ l → (q, x) ∈ hin) → sameH ⟨st.as.slots, sgH τ' (obs hin) ++ obs (F ++ st.heap)⟩ τ' (obs l) := by
            intro l
            induction l with
            | nil => intro _; trivial
            | cons p l ih =>
              intro hl
              obtain ⟨q, x⟩ := p
              have hm := hl q x (by simp)
              have hal := hall q x.ob (mem_obs' hm)
              refine ⟨?_, ?_, ih fun q' x' h' => hl q' x' (List.mem_cons_of_mem _ h')⟩
              · show look OB.dead (sgH τ' (obs hin) ++ obs (F ++ st.heap)) (sg τ' q) = x.ob.sg τ'
                have e1 : look OB.dead (obs hin) q = x.ob := by rw [look_obs, ndK_look k8 hm]
                rw [look_app, if_pos, look_sgH k1 ((inDH_look c1).2 hal) c1, e1]
                have := mem_sgEH (σ := τ') hm
                rw [← sgEH_obs]
                exact hasK_mem (mem_obs' this)
              · have e1 : look OB.dead (obs hin) q = x.ob := by rw [look_obs, ndK_look k8 hm]
                rw [e1] at hal; exact hal
          have hx := callX (P := P) (E := E) (kp := kp) (n := n) (st := ⟨st.as.slots, sgH τ' (obs hin) ++ obs (F ++ st.heap)⟩) (args := args.toList) (argTypes := argTypes) (ty := ty) (ps := ps) (af := af) (d := dst) (Q := Q) (K := K) τ' hc hev (hsame hin fun _ _ h => h) (by
            simp only [Bool.and_eq_true]
            refine ⟨⟨⟨⟨⟨k1, k2⟩, c1⟩, k4⟩, k5⟩, newOk_mk fun p hp => ?_⟩
            by_cases hal : (look OB.dead (obs hin) p.1).alive = true
            · exact .inl hal
            · refine .inr ?_
              have kp10 := List.all_eq_true.1 k10 p hp
              simp only [Bool.or_eq_true, Bool.and_eq_true, Bool.not_eq_true'] at kp10
              have eal : (look EB.dead hin p.1).alive = (look OB.dead (obs hin) p.1).alive := by rw [look_obs, alive_ob]
              rw [eal] at kp10
              rcases kp10 with kp10 | ⟨g1, g2⟩
              · exact absurd kp10 hal
              · have e1 := sg_mem k1 hp
                have m1 := mem_sgEH (σ := τ') (look_memE g1)
                rw [e1] at m1
                have hfr : st.free kp p.2 = true := by
                  rcases hf _ (List.mem_append_left _ m1) with q | q
                  · rw [g2] at q; cases q
                  · exact q
                have hfs := free_split (st := st.as) (kp := kp) (r := p.2) (by rw [as_free]; exact hfr)
                have inj : ∀ q, (look OB.dead (obs hin) q).alive = true → sg τ' q ≠ p.2 := fun q hq e => by
                  have hdq := (inDH_look c1).2 hq
                  have hdp : domN p.1 τ' = true := by
                    have : ∀ (l : List (Nat × Nat)), p ∈ l → domN p.1 l = true := by
                      intro l
                      induction l with
                      | nil => intro hm; cases hm
                      | cons z l ih =>
                        intro hm
                        rcases List.mem_cons.1 hm with e | e
                        · subst e; simp [domN]
                        · simp [domN, ih e]
                    exact this _ hp
                  have k := sgi_sg k1 hdq
                  rw [e, ← e1, sgi_sg k1 hdp] at k
                  injection k with k
                  subst k; exact hal hq
                refine free_mk ?_ ?_ hfs.2.2.1 hfs.2.2.2
                · show (look OB.dead (sgH τ' (obs hin) ++ obs (F ++ st.heap)) p.2).alive = false
                  rw [look_app, if_neg, obs_app, look_app, if_neg]
                  · exact hfs.1
                  · intro hkk
                    have : ∃ eb, (p.2, eb) ∈ F := hasK_obs hkk
                    obtain ⟨eb, hm⟩ := this
                    obtain ⟨c, T, sz, p', q1, _⟩ := f1 _ _ hm
                    rw [← alive_ob, q1] at g2; cases g2
                  · intro hkk
                    obtain ⟨q, x, hm, e⟩ := hasK_sgH_of hkk
                    exact inj q (hall q x hm) e
                · show hHas p.2 (sgH τ' (obs hin) ++ obs (F ++ st.heap)) = false
                  rw [hHas_append, obs_app, hHas_append, hHas_obs_row f1, Bool.false_or]
                  have e2 : hHas p.2 (obs st.heap) = false := hfs.2.1
                  rw [e2, Bool.or_false]
                  cases hq : hHas p.2 (sgH τ' (obs hin)) with
                  | false => rfl
                  | true =>
                    obtain ⟨q, q1, q2⟩ := hHas_sgH k0 hq
                    exact absurd q2 (inj q q1)) (by rw [Bool.and_eq_true]; exact ⟨k6, k7⟩) hd I1 h0' hn (fun s => RA_mono H _ _ (fun _ _ => rfl) (hs s)) hA' (fun a' w' hsat => hK a' w' (by
            refine hsat.congr (fun s => ?_) (fun r => ?_)
            · cases dst with
              | none => rfl
              | some x =>
                show look AV.any ((x, (res.sg τ').av) :: avs st.slots) s = look AV.any ((x, res.av.sg τ') :: avs st.slots) s
                rw [sg_av]
            · show look OB.dead (obs (sgEH τ' hout ++ (deadE τ' hin ++ F) ++ st.heap)) r = look OB.dead (sgH τ' (obs hout) ++ (deadH τ' (obs hin) ++ (sgH τ' (obs hin) ++ obs (F ++ st.heap)))) r
              rw [obs_app, obs_app, sgEH_obs, obs_app, deadE_obs, obs_app, List.append_assoc, List.append_assoc, look_app _ r (sgH τ' (obs hout)), look_app _ r (sgH τ' (obs hout))]
              split
              · rfl
              · rw [look_app _ r (deadH τ' (obs hin)), look_app _ r (deadH τ' (obs hin))]
                split
                · rfl
                · next hnk => rw [look_app _ r (sgH τ' (obs hin)), if_neg (by rw [← hasK_dead_sg]; exact hnk)]))
          have ea : args.toList.toArray = args := by simp
          rw [ea] at hx; exact hx
end
end Go.Proofs.Ytnopdnclefopbaa
