/- Code over values without addresses: regions in order, branches, blocks, loops, calls, a function's contract. It names no function of the program. -/
import Derived.Test.YtnopdnclefopbaaAbsMem
import Derived.Deep.LoopGhost
namespace Go.Proofs.Ytnopdnclefopbaa
open Go.RowKit
set_option linter.unusedVariables false
set_option linter.unusedSimpArgs false

section
variable {P : Program} {E : Env} {kp : List Nat} {n : Nat} {ops : Array Oper} {st st' : AS} {Q : Exit → Act → World → Prop}

/-- Every frame and world that meets st meets st'. -/
def Wk (E : Env) (kp : List Nat) (n : Nat) (st st' : AS) : Prop := ∀ a w, Sat E kp n st a w → Sat E kp n st' a w
theorem Wk.trans {s1 s2 s3 : AS} (h : Wk E kp n s1 s2) (k : Wk E kp n s2 s3) : Wk E kp n s1 s3 := fun a w hs => k a w (h a w hs)

def To (E : Env) (kp : List Nat) (n : Nat) (Q : Exit → Act → World → Prop) (e : Exit) (st : AS) : Prop := ∀ a w, Sat E kp n st a w → Q e a w
def AO (P : Program) (E : Env) (kp : List Nat) (n : Nat) (ops : Array Oper) (Q : Exit → Act → World → Prop) (rest : List Oper) (st : AS) : Prop := ∀ a w, Sat E kp n st a w → wpList P ops Q rest a w
def AW (P : Program) (E : Env) (kp : List Nat) (n : Nat) (c : Code) (Q : Exit → Act → World → Prop) (st : AS) : Prop := ∀ a w, Sat E kp n st a w → c.wp P Q a w

theorem AO.step {o : Oper} {rest : List Oper} (h : Step P E kp n ops o st st') (k : AO P E kp n ops Q rest st') : AO P E kp n ops Q (o :: rest) st :=
  fun a w hs => wpList_step fun K hK => h a w K Q hs fun a' w' hs' => hK _ _ (k a' w' hs')
theorem AO.nil (h : To E kp n Q .normal st) : AO P E kp n ops Q [] st := fun a w hs => wpList_nil (h a w hs)
theorem AO.wk {rest : List Oper} (h : Wk E kp n st st') (k : AO P E kp n ops Q rest st') : AO P E kp n ops Q rest st := fun a w hs => k a w (h a w hs)
theorem AW.wk {c : Code} (h : Wk E kp n st st') (k : AW P E kp n c Q st') : AW P E kp n c Q st := fun a w hs => k a w (h a w hs)
theorem To.wk {e : Exit} (h : Wk E kp n st st') (k : To E kp n Q e st') : To E kp n Q e st := fun a w hs => k a w (h a w hs)
theorem AW.region {id : Nat} {l : List Oper} (h : AO P E kp n l.toArray Q l st) : AW P E kp n (.region id l.toArray false) Q st := fun a w hs => wp_region_lit (h a w hs)
theorem AW.seq {x y : Code} (h : AW P E kp n x (Exit.then (y.wp P Q) Q) st) : AW P E kp n (.seq x y) Q st := fun a w hs => wp_seq (h a w hs)
theorem AW.skip (h : To E kp n Q .normal st) : AW P E kp n .skip Q st := fun a w hs => wp_skip (h a w hs)
theorem AW.ret (h : To E kp n Q .ret st) : AW P E kp n .ret Q st := fun a w hs => wp_ret (h a w hs)
theorem AW.exit {id : Nat} (h : To E kp n Q (.exit id) st) : AW P E kp n (.exit id) Q st := fun a w hs => wp_exit (h a w hs)
theorem AW.block {id : Nat} {c : Code} (h : AW P E kp n c (Exit.inBlock id Q) st) : AW P E kp n (.block id c) Q st := fun a w hs => wp_block (h a w hs)
theorem AW.cond {c : Operand} {x y : Code} {g : Bool} (hc : Gv (st.ev c) (.p (.v (.bool g)))) (h1 : g = true → AW P E kp n x Q st) (h2 : g = false → AW P E kp n y Q st) : AW P E kp n (.cond c x y) Q st := by
  intro a w hs
  have hs' := hs
  obtain ⟨φ, Pub, I, h0, hn, hsl⟩ := hs
  have e := hc.v (ev_R (h := st.heap) hsl c)
  exact wp_cond_split e (fun hg => h1 hg a w hs') (fun hg => h2 hg a w hs')
/-- What comes behind. -/
theorem To.seq {y : Code} (h : AW P E kp n y Q st) : To E kp n (Exit.then (y.wp P Q) Q) .normal st := h
theorem To.then_normal {K : Act → World → Prop} (h : To E kp n (fun _ => K) .normal st) : To E kp n (Exit.then K Q) .normal st := h
theorem To.then_ret {K : Act → World → Prop} (h : To E kp n Q .ret st) : To E kp n (Exit.then K Q) .ret st := h
theorem To.then_exit {K : Act → World → Prop} {id : Nat} (h : To E kp n Q (.exit id) st) : To E kp n (Exit.then K Q) (.exit id) st := h
theorem To.block_normal {id : Nat} (h : To E kp n Q .normal st) : To E kp n (Exit.inBlock id Q) .normal st := h
theorem To.block_ret {id : Nat} (h : To E kp n Q .ret st) : To E kp n (Exit.inBlock id Q) .ret st := h
theorem To.block_exit {id : Nat} (h : To E kp n Q .normal st) : To E kp n (Exit.inBlock id Q) (.exit id) st := fun a w hs => by
  show (if id = id then Q .normal a w else Q (.exit id) a w); rw [if_pos rfl]; exact h a w hs
theorem To.block_exit_ne {id id' : Nat} (hne : id' ≠ id) (h : To E kp n Q (.exit id') st) : To E kp n (Exit.inBlock id Q) (.exit id') st := fun a w hs => by
  show (if id' = id then Q .normal a w else Q (.exit id') a w); rw [if_neg hne]; exact h a w hs

/-- **A loop**: what its states at a round's head are (I, over some data x), and a measure. -/
theorem AW.loop {α : Type} {c : Code} (I : α → AS) (ok : α → Prop) (μ : α → Nat) (x0 : α) (h0 : ok x0) (hst : Wk E kp n st (I x0))
    (round : ∀ x, ok x → ∀ K : Act → World → Prop, (∀ y, ok y → μ y < μ x → To E kp n (fun _ => K) .normal (I y)) → AW P E kp n c (Exit.then K Q) (I x)) : AW P E kp n (.loop c) Q st := by
  intro a w hs
  refine wp_loop_ghost (fun m a w => ∃ x, μ x = m ∧ ok x ∧ Sat E kp n (I x) a w) (μ x0) ⟨x0, rfl, h0, hst a w hs⟩ ?_
  rintro m a w ⟨x, rfl, hx, hsx⟩
  exact round x hx _ (fun y hy hlt a' w' hs' => ⟨μ y, hlt, y, rfl, hy, hs'⟩) a w hsx

/-! ### Contracts -/
/-- **The contract of a function**: called on args, beside the blocks hin of the caller's, it gives res, and the blocks hout; nothing else that was there is changed. -/
def Ev (P : Program) (f : FuncId) (hin : List (Nat × OB)) (args : List AV) (hout : List (Nat × OB)) (res : AV) : Prop :=
  ∀ (E : Env) (φ : Ghost) (Pub : Nat → Nat → Prop) (w : World) (vs : List Value), E.w0 = w → E.φ0 = φ → Inv E (hin.map (·.1)) φ Pub hin w → RAs w Pub φ args vs →
    Calls P f vs.toArray w fun e w' => ∃ v φ' Pub', e = .returned v ∧ Inv E (hin.map (·.1)) φ' Pub' hout w' ∧ RA w' Pub' φ' res v

def slotsOf : Nat → List AV → List (Nat × AV)
  | _, [] => []
  | i, x :: xs => (i, x) :: slotsOf (i + 1) xs
theorem slotsOf_R {w : World} {Pub : Nat → Nat → Prop} {φ : Ghost} : ∀ {l : List AV} {vs : List Value} (i : Nat) (A : Array Value), RAs w Pub φ l vs → (∀ j u, vs[j]? = some u → A[i + j]? = some u) → ∀ s, RA w Pub φ (look .any (slotsOf i l) s) (A.getD s undef)
  | [], vs, i, A, _, _, s => by simp [slotsOf, look, RA]
  | x :: xs, vs, i, A, h, hA, s => by
    unfold RAs at h
    obtain ⟨u, us, rfl, h1, h2⟩ := h
    simp only [slotsOf, look_cons]
    by_cases e : i = s
    · subst e
      rw [if_pos rfl]
      have := hA 0 u rfl
      rw [Nat.add_zero] at this
      rw [Array.getD_eq_getD_getElem?, this]; exact h1
    · rw [if_neg e]
      exact slotsOf_R (i + 1) A h2 (fun j v hj => by have := hA (j + 1) v (by simpa using hj); rwa [show i + (j + 1) = i + 1 + j from by omega] at this) s

/-- A result is read. -/
def rvRun (tmps : Array Value) : ResultVar → Sem Value
  | .tmp t => pure (tmps.getD t undef)
  | .cell a t => do loadVar t (← asAddr (tmps.getD a undef))
theorem results_rv (fn : Func) (tmps : Array Value) : results fn tmps = (do let vs ← fn.results.mapM (rvRun tmps); pure (if h : vs.size = 1 then vs[0] else .tuple vs)) := by
  unfold results
  congr 1
/-- What a result reads as, at the function's end. -/
def ResOk (P : Program) (st : AS) (rv : ResultVar) (x : AV) : Prop :=
  ∀ (E : Env) (kp : List Nat) (a : Act) (w : World) (φ : Ghost) (Pub : Nat → Nat → Prop), Inv E kp φ Pub st.heap w → (∀ s, RA w Pub φ (look .any st.slots s) (a.tmps.getD s undef)) →
    ∃ v, (rvRun a.tmps rv).run P w = .ok v w ∧ RA w Pub φ x v
theorem ResOk.tmp {t : Nat} {x : AV} (h : Gv (look .any st.slots t) x) : ResOk P st (.tmp t) x := fun E kp a w φ Pub I hs => ⟨_, rfl, h _ _ _ _ (hs t)⟩
theorem loadAt_var {T : TypeId} {ad : Addr} {w : World} {v : Value} (h : (Instr.loadAt T (.pointer (some ad))).run P w = .ok v w) : (do loadVar T (← asAddr (.pointer (some ad))) : Sem Value).run P w = .ok v w := by
  simpa [Instr.loadAt, Instr.sureAddr, asAddr] using h
theorem ResOk.box1 {c r off : Nat} {T t : TypeId} {cells : List AV} {x y : AV} (hc : Gv (look .any st.slots c) (.own r off)) (hT : aggOf P T = some false) (hl : st.ob r = .box cells t) (hv : cells[off]? = some x) (hy : Gv x y) : ResOk P st (.cell c T) y := by
  intro E kp a w φ Pub I hs
  have h := hc _ _ _ _ (hs c)
  unfold RA at h
  obtain ⟨b, cc, e0, e⟩ := h
  obtain ⟨cur, c1, c2, _⟩ := own_cell_box I hl e0
  obtain ⟨u, hu, hRv⟩ := RAs_get c2 hv
  refine ⟨u, ?_, hy _ _ _ _ hRv⟩
  simp only [rvRun, e]
  exact loadAt_var (run_load1 hT (by rw [cell_of_row w b off cur t (0, 0) c1]; simpa using hu))
theorem ResOk.boxN {c r off s : Nat} {T t : TypeId} {cells : List AV} {l : List AV} {y : AV} (hc : Gv (look .any st.slots c) (.own r off)) (hT : aggOf P T = some true) (hs' : szOf P T = some s) (hl : st.ob r = .box cells t) (hv : (cells.drop off).take s = l) (hlen : l.length = s)
    (hy : Gv (.agg l) y) : ResOk P st (.cell c T) y := by
  intro E kp a w φ Pub I hs
  have h := hc _ _ _ _ (hs c)
  unfold RA at h
  obtain ⟨b, cc, e0, e⟩ := h
  obtain ⟨cur, c1, c2, _⟩ := own_cell_box I hl e0
  have c3 := RAs_take s (RAs_drop off c2)
  rw [hv] at c3
  refine ⟨_, ?_, hy _ _ _ _ (by unfold RA; exact ⟨_, rfl, c3⟩)⟩
  simp only [rvRun, e]
  exact loadAt_var (run_loadN hT hs' (by rw [RAs_length c3]; exact hlen) (fun j v hj => by
      rw [cell_of_row w b _ cur t (0, 0) c1]
      rw [List.getElem?_take] at hj
      split at hj
      · rw [List.getElem?_drop] at hj; simpa using hj
      · cases hj))

/-- Blocks that are not wanted are let go of. -/
def subH (h h' : List (Nat × OB)) : Prop := ∀ r, look OB.dead h' r = look OB.dead h r ∨ look OB.dead h' r = .dead
theorem subH_nil {h : List (Nat × OB)} : subH h [] := fun r => .inr rfl
theorem subH_cons {h h' : List (Nat × OB)} {r : Nat} {ob : OB} (hr : look OB.dead h r = ob) (k : subH h h') : subH h ((r, ob) :: h') := fun q => by
  rw [look_cons]
  by_cases e : r = q
  · subst e; rw [if_pos rfl]; exact .inl hr.symm
  · rw [if_neg e]; exact k q
theorem Inv.sub {φ : Ghost} {Pub : Nat → Nat → Prop} {h h' : List (Nat × OB)} {w : World} (I : Inv E kp φ Pub h w) (hs : subH h h') : Inv E kp φ Pub h' w := by
  have hal : ∀ q, (look OB.dead h' q).alive = true → look OB.dead h' q = look OB.dead h q ∧ (look OB.dead h q).alive = true := fun q hq => by
    rcases hs q with e | e
    · exact ⟨e, by rw [← e]; exact hq⟩
    · rw [e] at hq; cases hq
  exact I.next rfl rfl rfl (Nat.le_refl _) (fun _ _ _ => rfl) (Adv.refl _ _) (fun _ _ hp => .inl hp) I.publ (fun q hq => by rw [(hal q hq).1]; exact I.own q)
    (fun q b c hq => I.mine q b c (hal q hq).2) (fun q q' b c c' hq hq' => I.inj q q' b c c' (hal q hq).2 (hal q' hq').2) (fun _ _ => rfl)

/-- The post of a function's body. -/
def EvPost (E : Env) (kp : List Nat) (hout : List (Nat × OB)) (res : AV) (e : Ending) (w' : World) : Prop := ∃ v φ' Pub', e = .returned v ∧ Inv E kp φ' Pub' hout w' ∧ RA w' Pub' φ' res v
theorem Ev.intro {f : FuncId} {fn : Func} {c : Code} {hin hout : List (Nat × OB)} {args : List AV} {res : AV} (hf : P.funcs[f]? = some fn) (hb : fn.body = some c) {m : Nat} (hm : fn.ntmps = m) (hk : args.length ≤ m)
    (h : ∀ E : Env, AW P E (hin.map (·.1)) m c (bodyPost P fn (EvPost E (hin.map (·.1)) hout res)) ⟨slotsOf 0 args, hin⟩) : Ev P f hin args hout res := by
  intro E φ Pub w vs hw hφ I hR
  subst hm
  refine calls_of_wp hf hb (h E _ w ⟨φ, Pub, I, rfl, ?_, ?_⟩)
  · have := RAs_length hR
    simp; omega
  · refine slotsOf_R 0 _ hR (fun j u hj => ?_)
    have hlt := (List.getElem?_eq_some_iff.1 hj).1
    rw [Nat.zero_add, Array.getElem?_append_left (by simpa using hlt)]
    simpa using hj
theorem Ret1 {fn : Func} {rv : ResultVar} {hout : List (Nat × OB)} {res : AV} (hr : fn.results = #[rv]) (h : ResOk P st rv res) (hh : subH st.heap hout) : To E kp n (bodyPost P fn (EvPost E kp hout res)) .ret st := by
  rintro a w ⟨φ, Pub, I, h0, hn, hs⟩
  obtain ⟨v, hv, hx⟩ := h E kp a w φ Pub I hs
  refine ⟨h0, v, ?_, v, φ, Pub, rfl, I.sub hh, hx⟩
  rw [results_rv, hr]
  simp [hv]
theorem Ret2 {fn : Func} {rv1 rv2 : ResultVar} {hout : List (Nat × OB)} {x1 x2 : AV} (hr : fn.results = #[rv1, rv2]) (h1 : ResOk P st rv1 x1) (h2 : ResOk P st rv2 x2) (hh : subH st.heap hout) : To E kp n (bodyPost P fn (EvPost E kp hout (.tup [x1, x2]))) .ret st := by
  rintro a w ⟨φ, Pub, I, h0, hn, hs⟩
  obtain ⟨v1, hv1, hx1⟩ := h1 E kp a w φ Pub I hs
  obtain ⟨v2, hv2, hx2⟩ := h2 E kp a w φ Pub I hs
  refine ⟨h0, .tuple #[v1, v2], ?_, .tuple #[v1, v2], φ, Pub, rfl, I.sub hh, by unfold RA; exact ⟨[v1, v2], rfl, by unfold RAs; exact ⟨v1, _, rfl, hx1, by unfold RAs; exact ⟨v2, _, rfl, hx2, by unfold RAs; rfl⟩⟩⟩⟩
  rw [results_rv, hr]
  simp [hv1, hv2]
theorem Ret3 {fn : Func} {rv1 rv2 rv3 : ResultVar} {hout : List (Nat × OB)} {x1 x2 x3 : AV} (hr : fn.results = #[rv1, rv2, rv3]) (h1 : ResOk P st rv1 x1) (h2 : ResOk P st rv2 x2) (h3 : ResOk P st rv3 x3) (hh : subH st.heap hout) :
    To E kp n (bodyPost P fn (EvPost E kp hout (.tup [x1, x2, x3]))) .ret st := by
  rintro a w ⟨φ, Pub, I, h0, hn, hs⟩
  obtain ⟨v1, hv1, hx1⟩ := h1 E kp a w φ Pub I hs
  obtain ⟨v2, hv2, hx2⟩ := h2 E kp a w φ Pub I hs
  obtain ⟨v3, hv3, hx3⟩ := h3 E kp a w φ Pub I hs
  refine ⟨h0, .tuple #[v1, v2, v3], ?_, .tuple #[v1, v2, v3], φ, Pub, rfl, I.sub hh, by unfold RA; exact ⟨[v1, v2, v3], rfl, by unfold RAs; exact ⟨v1, _, rfl, hx1, by unfold RAs; exact ⟨v2, _, rfl, hx2, by unfold RAs; exact ⟨v3, _, rfl, hx3, by unfold RAs; rfl⟩⟩⟩⟩⟩
  rw [results_rv, hr]
  simp [hv1, hv2, hv3]
theorem To.ret_normal {fn : Func} {R : Ending → World → Prop} (h : To E kp n (bodyPost P fn R) .ret st) : To E kp n (bodyPost P fn R) .normal st := h

/-- May a function be called by its number? -/
def callable (P : Program) (f : FuncId) : Bool :=
  match P.funcs[f]? with
  | some fn => fn.body.isSome && !(fn.name == "runtime.NumGoroutine")
  | none => false
theorem run_callFunc {f : FuncId} (hc : callable P f = true) (args : Array Value) (w : World) : (callFunc f args).run P w = .ok (.enter f args) w := by
  unfold callable at hc
  cases hf : P.funcs[f]? with
  | none => rw [hf] at hc; cases hc
  | some fn =>
    rw [hf] at hc
    simp only [Bool.and_eq_true, Bool.not_eq_true'] at hc
    obtain ⟨h1, h2⟩ := hc
    have h3 : fn.body.isNone = false := by cases hb : fn.body <;> simp_all
    have h4 : ¬ fn.name = "runtime.NumGoroutine" := fun e => by rw [e] at h2; simp at h2
    have h5 : ¬ fn.body = none := fun e => by rw [e] at h1; cases h1
    simp [callFunc, program, Sem.run, hf, h4, h5]

def toPL : List AV → Option (List PV)
  | [] => some []
  | x :: xs => match x.toP, toPL xs with
    | some p, some ps => some (p :: ps)
    | _, _ => none
theorem toPL_R {w : World} {Pub : Nat → Nat → Prop} {φ φ' : Ghost} : ∀ {l : List AV} {ps : List PV} {vs : List Value}, toPL l = some ps → RAs w Pub φ l vs → RAs w Pub φ' (ps.map .p) vs
  | [], ps, vs, h, k => by simp only [toPL, Option.some.injEq] at h; subst h; unfold RAs at k; subst k; simp only [List.map_nil]; unfold RAs; rfl
  | x :: xs, ps, vs, h, k => by
    unfold RAs at k
    obtain ⟨u, us, rfl, h1, h2⟩ := k
    simp only [toPL] at h
    cases hx : x.toP with
    | none => rw [hx] at h; cases h
    | some p =>
      cases hxs : toPL xs with
      | none => rw [hx, hxs] at h; cases h
      | some qs =>
        rw [hx, hxs] at h; simp only [Option.some.injEq] at h; subst h
        rw [List.map_cons]; unfold RAs
        exact ⟨u, us, rfl, by unfold RA; exact toP_R hx h1, toPL_R hxs h2⟩
theorem evs_R {w : World} {Pub : Nat → Nat → Prop} {φ : Ghost} {a : Act} (hs : ∀ s, RA w Pub φ (look .any st.slots s) (a.tmps.getD s undef)) : ∀ (l : List Operand), RAs w Pub φ (l.map st.ev) (l.map a.eval)
  | [] => by simp only [List.map_nil]; unfold RAs; rfl
  | x :: xs => by
    rw [List.map_cons, List.map_cons]; unfold RAs
    exact ⟨_, _, rfl, ev_R (h := st.heap) hs x, evs_R hs xs⟩

/-- The names of some blocks are free. -/
def freeAll (st : AS) (kp : List Nat) : List (Nat × OB) → Bool
  | [] => true
  | (r, _) :: h => st.free kp r && freeAll st kp h
theorem freeAll_of : ∀ {hout : List (Nat × OB)}, freeAll st kp hout = true → ∀ r, (look OB.dead hout r).alive = true → st.free kp r = true
  | [], _, r, h => by cases h
  | (k, ob) :: hout, hf, r, h => by
    simp only [freeAll, Bool.and_eq_true] at hf
    rw [look_cons] at h
    by_cases e : k = r
    · subst e; exact hf.1
    · rw [if_neg e] at h; exact freeAll_of hf.2 r h
theorem look_append {α : Type} {d : α} : ∀ (h1 h2 : List (Nat × α)) (r : Nat), (∃ x, (r, x) ∈ h1) ∨ look d (h1 ++ h2) r = look d h2 r
  | [], h2, r => .inr rfl
  | (k, x) :: h1, h2, r => by
    by_cases e : k = r
    · subst e; exact .inl ⟨x, by simp⟩
    · rcases look_append h1 h2 r with ⟨y, hy⟩ | hr
      · exact .inl ⟨y, List.mem_cons_of_mem _ hy⟩
      · refine .inr ?_
        rw [List.cons_append, look_cons, if_neg e]; exact hr
theorem look_app_in {α : Type} {d : α} : ∀ (h1 h2 : List (Nat × α)) (r : Nat) (x : α), (r, x) ∈ h1 → look d (h1 ++ h2) r = look d h1 r
  | (k, y) :: h1, h2, r, x, hm => by
    rw [List.cons_append, look_cons, look_cons]
    by_cases e : k = r
    · rw [if_pos e, if_pos e]
    · rw [if_neg e, if_neg e]
      rcases List.mem_cons.1 hm with h | h
      · cases h; exact absurd rfl e
      · exact look_app_in h1 h2 r x h
def noDead : List (Nat × OB) → Bool
  | [] => true
  | (_, ob) :: h => ob.alive && noDead h
theorem look_noDead : ∀ {h : List (Nat × OB)} {r : Nat} {x : OB}, noDead h = true → (r, x) ∈ h → (look OB.dead h r).alive = true
  | (k, y) :: h, r, x, hn, hm => by
    simp only [noDead, Bool.and_eq_true] at hn
    rw [look_cons]
    by_cases e : k = r
    · rw [if_pos e]; exact hn.1
    · rw [if_neg e]
      rcases List.mem_cons.1 hm with h' | h'
      · cases h'; exact absurd rfl e
      · exact look_noDead hn.2 h'

mutual
def AV.inH (h : List (Nat × OB)) : AV → Bool
  | .p _ => true
  | .agg l => inHL h l
  | .tup l => inHL h l
  | .own q _ => (look OB.dead h q).alive
  | .osl q _ => (look OB.dead h q).alive
  | .cnd _ x => AV.inH h x
  | .any => true
def inHL (h : List (Nat × OB)) : List AV → Bool
  | [] => true
  | x :: xs => AV.inH h x && inHL h xs
end
mutual
theorem inH_has {h : List (Nat × OB)} {r : Nat} : ∀ (x : AV), x.inH h = true → x.has r = true → (look OB.dead h r).alive = true
  | .p _, _, hr => by unfold AV.has at hr; cases hr
  | .agg l, hi, hr => by unfold AV.has at hr; unfold AV.inH at hi; exact inHL_has l hi hr
  | .tup l, hi, hr => by unfold AV.has at hr; unfold AV.inH at hi; exact inHL_has l hi hr
  | .own q _, hi, hr => by unfold AV.has at hr; unfold AV.inH at hi; rw [← Nat.eq_of_beq_eq_true hr]; exact hi
  | .osl q _, hi, hr => by unfold AV.has at hr; unfold AV.inH at hi; rw [← Nat.eq_of_beq_eq_true hr]; exact hi
  | .cnd _ x, hi, hr => by unfold AV.has at hr; unfold AV.inH at hi; exact inH_has x hi hr
  | .any, _, hr => by unfold AV.has at hr; cases hr
theorem inHL_has {h : List (Nat × OB)} {r : Nat} : ∀ (l : List AV), inHL h l = true → hasL r l = true → (look OB.dead h r).alive = true
  | [], _, hr => by unfold hasL at hr; cases hr
  | x :: xs, hi, hr => by
    unfold hasL at hr; unfold inHL at hi
    simp only [Bool.or_eq_true, Bool.and_eq_true] at hr hi
    rcases hr with hr | hr
    · exact inH_has x hi.1 hr
    · exact inHL_has xs hi.2 hr
end
/-- The blocks speak of one another alone, and none is dead. -/
def closedH (h : List (Nat × OB)) : List (Nat × OB) → Bool
  | [] => true
  | (_, .box cells _) :: r => inHL h cells && closedH h r
  | (_, .row ..) :: r => closedH h r
  | (_, .dead) :: _ => false
theorem closedH_noDead {h : List (Nat × OB)} : ∀ {l : List (Nat × OB)}, closedH h l = true → noDead l = true
  | [], _ => rfl
  | (_, .box cells _) :: r, hc => by
    simp only [closedH, Bool.and_eq_true] at hc
    simp only [noDead, closedH_noDead hc.2]; rfl
  | (_, .row ..) :: r, hc => by
    simp only [closedH] at hc
    simp only [noDead, closedH_noDead hc]; rfl
  | (_, .dead) :: _, hc => by simp [closedH] at hc
theorem closedH_has {h : List (Nat × OB)} {q r : Nat} : ∀ {l : List (Nat × OB)}, closedH h l = true → (look OB.dead l r).has q = true → (look OB.dead h q).alive = true
  | [], _, hh => by simp [look, OB.has] at hh
  | (k, .box cells t) :: l, hc, hh => by
    simp only [closedH, Bool.and_eq_true] at hc
    rw [look_cons] at hh
    by_cases e : k = r
    · rw [if_pos e] at hh; exact inHL_has cells hc.1 hh
    · rw [if_neg e] at hh; exact closedH_has hc.2 hh
  | (k, .row _ _ _ _) :: l, hc, hh => by
    simp only [closedH] at hc
    rw [look_cons] at hh
    by_cases e : k = r
    · rw [if_pos e] at hh; cases hh
    · rw [if_neg e] at hh; exact closedH_has hc hh
  | (k, .dead) :: l, hc, hh => by simp [closedH] at hc

/-- **A call** on shared values; what it makes for its caller alone (hout) comes under free names. -/
theorem S_call {f : FuncId} {d : Option Tmp} {args : List Operand} {argTypes : Array TypeId} {ty : TypeId} {ps : String} {af : Array Edge} {qs : List PV} {hout : List (Nat × OB)} {res : AV} (hc : callable P f = true)
    (hargs : toPL (args.map st.ev) = some qs) (hev : Ev P f [] (qs.map .p) hout res) (hcl : (closedH hout hout && res.inH hout) = true) (hfr : freeAll st kp hout = true) (hd : ∀ x, d = some x → Nat.blt x n = true) :
    Step P E kp n ops ⟨d, .call { callee := .value (.func f), args := args.toArray, argTypes }, ty, ps, af, none⟩ st ⟨(match d with | some x => (x, res) :: st.slots | none => st.slots), hout ++ st.heap⟩ := by
  intro a w K Q ⟨φ, Pub, I, h0, hn, hs⟩ hK
  rw [if_pos (by rfl)]
  rw [Bool.and_eq_true] at hcl
  have hnd := closedH_noDead hcl.1
  have hA := toPL_R (φ' := fun _ => none) hargs (evs_R hs args)
  have hcall := hev ⟨w, fun _ => False, Pub, fun _ => none⟩ (fun _ => none) Pub w (args.map a.eval) rfl rfl
    ⟨rfl, rfl, rfl, Nat.le_refl _, fun _ _ _ => rfl, fun r => trivial, (fun r b c h => by cases h), (fun r r' b c c' h => by cases h), fun _ _ h => h, fun _ _ h => .inl h, I.publ, fun _ _ _ => rfl, (fun r h => by cases h)⟩ hA
  have hrun : (execOp a.eval ⟨d, .call { callee := .value (.func f), args := args.toArray, argTypes }, ty, ps, af, none⟩).run P w = .ok (.enter f (args.map a.eval).toArray) w := by
    simp [execOp, resolve, Act.eval, Deferred.ofValue, invoke, run_callFunc hc]
  unfold Oper.wp
  rw [hrun]
  show Calls P f _ w _
  refine hcall.mono ?_
  rintro e w' ⟨v, φ', Pub', rfl, I', hR⟩
  refine hK _ _ ?_
  have fr := freeAll_of hfr
  have hin : ∀ r x, (r, x) ∈ hout → (look OB.dead hout r).alive = true := fun r x hm => look_noDead hnd hm
  have H : Adv w Pub w' Pub' := fun b i hp => ⟨I'.pub0 b i hp, I'.same b i hp⟩
  have hold : ∀ r, (look OB.dead st.heap r).alive = true → look OB.dead (hout ++ st.heap) r = look OB.dead st.heap r ∧ (look OB.dead hout r).alive = false := fun r hr => by
    have : (look OB.dead hout r).alive = false := by
      cases hq : (look OB.dead hout r).alive with
      | false => rfl
      | true => have := (free_split (fr r hq)).1; rw [this] at hr; cases hr
    rcases look_append (d := OB.dead) hout st.heap r with ⟨x, hx⟩ | e
    · rw [hin r x hx] at this; cases this
    · exact ⟨e, this⟩
  -- where the names lie now
  let ψ : Ghost := fun r => if (look OB.dead hout r).alive = true then φ' r else φ r
  have hψn : ∀ x : AV, (∀ r, (look OB.dead hout r).alive = true → x.has r = false) → ∀ r, x.has r = true → ψ r = φ r := fun x hx r hr => by
    show (if _ then _ else _) = _
    rw [if_neg]
    intro ha; rw [hx r ha] at hr; cases hr
  have hcase : ∀ r, (look OB.dead (hout ++ st.heap) r).alive = true → ((look OB.dead hout r).alive = true ∧ look OB.dead (hout ++ st.heap) r = look OB.dead hout r ∧ ψ r = φ' r) ∨
      ((look OB.dead hout r).alive = false ∧ look OB.dead (hout ++ st.heap) r = look OB.dead st.heap r ∧ (look OB.dead st.heap r).alive = true ∧ ψ r = φ r) := fun r hr => by
    cases hq : (look OB.dead hout r).alive with
    | true =>
      rcases look_append (d := OB.dead) hout st.heap r with ⟨x, hx⟩ | e
      · exact .inl ⟨rfl, look_app_in hout st.heap r x hx, if_pos hq⟩
      · rw [e] at hr; have := (free_split (fr r hq)).1; rw [this] at hr; cases hr
    | false =>
      rcases look_append (d := OB.dead) hout st.heap r with ⟨x, hx⟩ | e
      · rw [hin r x hx] at hq; cases hq
      · exact .inr ⟨rfl, e, by rw [← e]; exact hr, if_neg (by rw [hq]; simp)⟩
  have hpw : ∀ b i, b < w.heap.size → Pub' b i → Pub b i := fun b i hb hp => by
    rcases I'.pubs b i hp with h | h | h
    · exact h
    · exact absurd hb (Nat.not_lt.2 h)
    · exact h.elim
  have IN : Inv E kp ψ Pub' (hout ++ st.heap) w' := by
    refine I.next I'.os I'.tape I'.output I'.size (fun b hb _ => I'.block b (Nat.lt_of_lt_of_le hb I.size) (fun h => h)) H (fun b i hp => ?_) I'.publ (fun r hr => ?_) (fun r b c hr hb => ?_) (fun r r' b c c' hr hr' hb hb' => ?_) (fun r hr => ?_)
    · rcases I'.pubs b i hp with h | h | h
      · exact .inl h
      · exact .inr (.inl (Nat.le_trans I.size h))
      · exact h.elim
    · rcases hcase r hr with ⟨e1, e2, e3⟩ | ⟨e1, e2, e3, e4⟩
      · rw [e2]
        exact Hp_keep (Adv.refl _ _) (fun _ _ _ => ⟨rfl, fun _ h => h⟩) e3 (fun q hq => if_pos (closedH_has hcl.1 hq)) (I'.own r)
      · rw [e2]
        refine Hp_keep H (fun b c hb => ⟨I'.block b (I.lt e3 hb) (fun h => h), fun i hp => hpw b i (I.lt e3 hb) hp⟩) e4 (fun q hq => if_neg (fun ha => ?_)) (I.own r)
        rw [look_hHas (free_split (fr q ha)).2.1] at hq; cases hq
    · rcases hcase r hr with ⟨e1, e2, e3⟩ | ⟨e1, e2, e3, e4⟩
      · rw [e3] at hb
        rcases I'.mine r b c e1 hb with h | h
        · exact .inl (Nat.le_trans I.size h)
        · exact h.elim
      · rw [e4] at hb; exact I.mine r b c e3 hb
    · rcases hcase r hr with ⟨e1, e2, e3⟩ | ⟨e1, e2, e3, e4⟩ <;> rcases hcase r' hr' with ⟨k1, k2, k3⟩ | ⟨k1, k2, k3, k4⟩
      · rw [e3] at hb; rw [k3] at hb'; exact I'.inj r r' b c c' e1 k1 hb hb'
      · rw [e3] at hb; rw [k4] at hb'
        rcases I'.mine r b c e1 hb with h | h
        · exact absurd (I.lt k3 hb') (Nat.not_lt.2 h)
        · exact h.elim
      · rw [e4] at hb; rw [k3] at hb'
        rcases I'.mine r' b c' k1 hb' with h | h
        · exact absurd (I.lt e3 hb) (Nat.not_lt.2 h)
        · exact h.elim
      · rw [e4] at hb; rw [k4] at hb'; exact I.inj r r' b c c' e3 k3 hb hb'
    · exact if_neg (fun ha => (free_split (fr r ha)).2.2.2 hr)
  have hR' : RA w' Pub' ψ res v := RA_mono (Adv.refl _ _) res v (fun r hr => if_pos (inH_has res hcl.2 hr)) hR
  have hS : ∀ s, RA w' Pub' ψ (look .any st.slots s) (a.tmps.getD s undef) := fun s => RA_mono H _ _ (hψn _ fun r ha => look_sHas (free_split (fr r ha)).2.2.1) (hs s)
  cases d with
  | none => exact ⟨ψ, Pub', IN, h0, hn, hS⟩
  | some x => exact Sat.put IN h0 hn hS (hd x rfl) hR'
end
end Go.Proofs.Ytnopdnclefopbaa
