/- One operation, over values without addresses: the rules that touch no memory of the call's own. They name no function of the program. -/
import Derived.Test.YtnopdnclefopbaaAbsApp
namespace Go.Proofs.Ytnopdnclefopbaa
open Go.RowKit
set_option linter.unusedVariables false
set_option linter.unusedSimpArgs false

/-- What the types of a program say, as far as it is wanted. -/
def aggOf (P : Program) (T : TypeId) : Option Bool := (P.underlying T).map fun d => d.isRow
def szOf (P : Program) (T : TypeId) : Option Nat := (P.info? T).map (·.size)
def zeOf (P : Program) (T : TypeId) : Option (List Value) := ((P.info? T).bind (·.zero)).map fun z => z.cells.toList
def plOf (P : Program) (T : TypeId) : Option (List (Nat × Nat)) :=
  match P.underlying T with
  | some (.struct fs) => fs.toList.mapM fun f => (P.info? f.type).map fun i => (f.offset, i.size)
  | _ => none
def arOf (P : Program) (T : TypeId) : Option (Nat × Nat) :=
  match P.underlying T with
  | some (.array n e) => (P.info? e).map fun i => (n, i.size)
  | _ => none
def slOf (P : Program) (T : TypeId) : Option (TypeId × Nat) :=
  match P.underlying T with
  | some (.slice e) => (P.info? e).map fun i => (e, i.size)
  | _ => none

section
variable {P : Program} {E : Env} {kp : List Nat} {n : Nat} {ops : Array Oper} {st st' : AS}

/-- From every frame and world that meet st the operation comes to such as meet st'. -/
def Step (P : Program) (E : Env) (kp : List Nat) (n : Nat) (ops : Array Oper) (o : Oper) (st st' : AS) : Prop :=
  ∀ (a : Act) (w : World) (K : Act → World → Prop) (Q : Exit → Act → World → Prop), Sat E kp n st a w → (∀ a' w', Sat E kp n st' a' w' → K a' w') →
    if Region.wanted o (yielded ops a.tmps) = true then o.wp P a w K Q else K (a.put o.dst undef) w

theorem Step.val {o : Oper} (hg : o.guard = none) (h : ∀ a w, Sat E kp n st a w → ∃ u w', (execOp a.eval o).run P w = .ok (.value u) w' ∧ Sat E kp n st' (a.put o.dst u) w') : Step P E kp n ops o st st' := by
  intro a w K Q hs hK
  obtain ⟨u, w', hr, hs'⟩ := h a w hs
  rw [if_pos (by simp [Region.wanted, hg])]
  unfold Oper.wp; rw [hr]; exact hK _ _ hs'
theorem Step.skip {o : Oper} (hg : o.guard = none) (h : ∀ a w, Sat E kp n st a w → ∃ w', (execOp a.eval o).run P w = .ok .skip w' ∧ Sat E kp n st' (a.put o.dst undef) w') : Step P E kp n ops o st st' := by
  intro a w K Q hs hK
  obtain ⟨w', hr, hs'⟩ := h a w hs
  rw [if_pos (by simp [Region.wanted, hg])]
  unfold Oper.wp; rw [hr]; exact hK _ _ hs'

section
variable {φ : Ghost} {Pub : Nat → Nat → Prop} {w : World} {h : List (Nat × OB)} {sl : List (Nat × AV)} {a : Act}
theorem Sat.put (I : Inv E kp φ Pub h w) (h0 : a.defers = []) (hn : a.tmps.size = n) (hs : ∀ s, RA w Pub φ (look .any sl s) (a.tmps.getD s undef)) {d : Nat} (hd : Nat.blt d n = true) {x : AV} {u : Value} (hx : RA w Pub φ x u) :
    Sat E kp n ⟨(d, x) :: sl, h⟩ (a.put (some d) u) w := by
  have hd : d < n := by rw [Nat.blt_eq] at hd; exact hd
  refine ⟨φ, Pub, I, h0, by simpa [Act.put] using hn, fun s => ?_⟩
  rw [look_cons]
  simp only [Act.put, Array.getD_eq_getD_getElem?, Array.getElem?_setIfInBounds]
  by_cases e : d = s
  · subst e; rw [if_pos rfl, if_pos rfl, if_pos (by omega)]; exact hx
  · rw [if_neg e, if_neg e, ← Array.getD_eq_getD_getElem?]; exact hs s
theorem ev_R (hs : ∀ s, RA w Pub φ (look .any sl s) (a.tmps.getD s undef)) (x : Operand) : RA w Pub φ (AS.ev ⟨sl, h⟩ x) (a.eval x) := by
  cases x with
  | tmp t => exact hs t
  | const c => show RA w Pub φ (.p (.v c)) c; simp [RA, RP]
  | func f => show RA w Pub φ (.p (.v _)) _; simp [RA, RP, Act.eval]
  | global g => show RA w Pub φ .any _; simp [RA]
end

/-- Whatever is an x is a y. -/
def Gv (x y : AV) : Prop := ∀ w Pub φ u, RA w Pub φ x u → RA w Pub φ y u
theorem Gv.r {x : AV} : Gv x x := fun _ _ _ _ h => h
theorem Gv.c {g : Bool} {x y : AV} (hg : g = true) (h : Gv x y) : Gv (.cnd g x) y := fun w Pub φ u k => h w Pub φ u (by unfold RA at k; exact k.1 hg)
theorem Gv.v {x : AV} {v : Value} (h : Gv x (.p (.v v))) {w Pub φ u} (k : RA w Pub φ x u) : u = v := by
  have := h w Pub φ u k; unfold RA RP at this; exact this
theorem Gv.p_ {x : AV} {q : PV} (h : Gv x (.p q)) {w Pub φ u} (k : RA w Pub φ x u) : RP w Pub q u := by
  have := h w Pub φ u k; unfold RA at this; exact this
theorem Gv.agg {l : List PV} : Gv (.agg (l.map .p)) (.p (.agg l)) := fun w Pub φ u k => by
  unfold RA at k ⊢
  unfold RP
  obtain ⟨vs, e, h⟩ := k
  refine ⟨vs, e, ?_⟩
  clear e
  induction l generalizing vs with
  | nil => unfold RAs at h; unfold RPs; exact h
  | cons x l ih =>
    rw [List.map_cons] at h
    unfold RAs at h; unfold RPs
    obtain ⟨u, us, e, h1, h2⟩ := h
    exact ⟨u, us, e, by unfold RA at h1; exact h1, ih us h2⟩
theorem Gv.toP {x : AV} {q : PV} (h : x.toP = some q) : Gv x (.p q) := fun w Pub φ u k => by unfold RA; exact toP_R h k

/-- An operation that leaves the world alone. -/
theorem S_pure {o : Oper} {d : Nat} (x : AV) (hg : o.guard = none) (ho : o.dst = some d) (hd : Nat.blt d n = true)
    (h : ∀ (a : Act) (w : World) (φ : Ghost) (Pub : Nat → Nat → Prop), Inv E kp φ Pub st.heap w → (∀ y, RA w Pub φ (st.ev y) (a.eval y)) → ∃ u, (execOp a.eval o).run P w = .ok (.value u) w ∧ RA w Pub φ x u) :
    Step P E kp n ops o st (st.put d x) := by
  refine Step.val hg fun a w ⟨φ, Pub, I, h0, hn, hs⟩ => ?_
  obtain ⟨u, hr, hx⟩ := h a w φ Pub I (ev_R hs)
  exact ⟨u, w, hr, by rw [ho]; exact Sat.put I h0 hn hs hd hx⟩

variable {d : Nat} {ty : TypeId} {ps : String} {af : Array Edge}

theorem S_move {x : Operand} (hd : Nat.blt d n = true) : Step P E kp n ops ⟨some d, .move x, ty, ps, af, none⟩ st (st.put d (st.ev x)) :=
  S_pure _ rfl rfl hd fun a w φ Pub I hs => ⟨_, rfl, hs x⟩
theorem S_assign {x : Operand} (hd : Nat.blt d n = true) : Step P E kp n ops ⟨some d, .assign x, ty, ps, af, none⟩ st (st.put d (st.ev x)) :=
  S_pure _ rfl rfl hd fun a w φ Pub I hs => ⟨_, rfl, hs x⟩
theorem S_moveG {x : Operand} {y : AV} (hx : Gv (st.ev x) y) (hd : Nat.blt d n = true) : Step P E kp n ops ⟨some d, .move x, ty, ps, af, none⟩ st (st.put d y) :=
  S_pure _ rfl rfl hd fun a w φ Pub I hs => ⟨_, rfl, hx _ _ _ _ (hs x)⟩

section
variable {x : Operand} {o : Op} (ho : o = .move x ∨ o = .assign x) (hd : Nat.blt d n = true)
include ho hd
theorem S_mv {y : AV} (hx : Gv (st.ev x) y) : Step P E kp n ops ⟨some d, o, ty, ps, af, none⟩ st (st.put d y) := by
  rcases ho with rfl | rfl
  · exact S_pure _ rfl rfl hd fun a w φ Pub I hs => ⟨_, rfl, hx _ _ _ _ (hs x)⟩
  · exact S_pure _ rfl rfl hd fun a w φ Pub I hs => ⟨_, rfl, hx _ _ _ _ (hs x)⟩
theorem S_mvP {q : PV} (hx : Gv (st.ev x) (.p q)) : Step P E kp n ops ⟨some d, o, ty, ps, af, none⟩ st (st.put d (.p q)) := S_mv ho hd hx
theorem S_mvAgg {q : List AV} (hx : Gv (st.ev x) (.agg q)) : Step P E kp n ops ⟨some d, o, ty, ps, af, none⟩ st (st.put d (.agg q)) := S_mv ho hd hx
theorem S_mvTup {q : List AV} (hx : Gv (st.ev x) (.tup q)) : Step P E kp n ops ⟨some d, o, ty, ps, af, none⟩ st (st.put d (.tup q)) := S_mv ho hd hx
theorem S_mvOwn {r off : Nat} (hx : Gv (st.ev x) (.own r off)) : Step P E kp n ops ⟨some d, o, ty, ps, af, none⟩ st (st.put d (.own r off)) := S_mv ho hd hx
theorem S_mvOsl {r m : Nat} (hx : Gv (st.ev x) (.osl r m)) : Step P E kp n ops ⟨some d, o, ty, ps, af, none⟩ st (st.put d (.osl r m)) := S_mv ho hd hx
theorem S_mvCnd {g : Bool} {y : AV} (hx : Gv (st.ev x) (.cnd g y)) : Step P E kp n ops ⟨some d, o, ty, ps, af, none⟩ st (st.put d (.cnd g y)) := S_mv ho hd hx
end
theorem and_i {a b : Bool} (h : a = true) (k : b = true) : (a && b) = true := by rw [h, k]; rfl
theorem and_l {a b : Bool} (h : (a && b) = true) : a = true := by cases a <;> simp at h ⊢
theorem and_r {a b : Bool} (h : (a && b) = true) : b = true := by cases a <;> simp_all
theorem beq_t {q : Bool} (h : q = true) : (q == true) = true := by rw [h]; rfl
theorem beq_f {q : Bool} (h : q = false) : (q == false) = true := by rw [h]; rfl
/-- 'c && x', 'c || x', as the translation has them. -/
theorem S_and {c x y : Operand} {g q : Bool} (hc : Gv (st.ev c) (.p (.v (.bool g)))) (hy : Gv (st.ev y) (.p (.v (.bool false)))) (hx : g = true → Gv (st.ev x) (.p (.v (.bool q)))) (hd : Nat.blt d n = true) :
    Step P E kp n ops ⟨some d, .pick c x y, ty, ps, af, none⟩ st (st.put d (.p (.v (.bool (g && q))))) :=
  S_pure _ rfl rfl hd fun a w φ Pub I hs => by
    have e1 := hc.v (hs c)
    cases g with
    | true =>
      have e2 := (hx rfl).v (hs x)
      refine ⟨.bool q, ?_, by simp [RA, RP]⟩
      simp [execOp, e1, e2, asBool]
    | false =>
      have e2 := hy.v (hs y)
      refine ⟨.bool false, ?_, by simp [RA, RP]⟩
      simp [execOp, e1, e2, asBool]
theorem S_or {c x y : Operand} {g q : Bool} (hc : Gv (st.ev c) (.p (.v (.bool g)))) (hy : Gv (st.ev y) (.p (.v (.bool true)))) (hx : g = false → Gv (st.ev x) (.p (.v (.bool q)))) (hd : Nat.blt d n = true) :
    Step P E kp n ops ⟨some d, .pick c y x, ty, ps, af, none⟩ st (st.put d (.p (.v (.bool (g || q))))) :=
  S_pure _ rfl rfl hd fun a w φ Pub I hs => by
    have e1 := hc.v (hs c)
    cases g with
    | false =>
      have e2 := (hx rfl).v (hs x)
      refine ⟨.bool q, ?_, by simp [RA, RP]⟩
      simp [execOp, e1, e2, asBool]
    | true =>
      have e2 := hy.v (hs y)
      refine ⟨.bool true, ?_, by simp [RA, RP]⟩
      simp [execOp, e1, e2, asBool]
theorem S_not {x : Operand} {T : TypeId} {g : Bool} (hx : Gv (st.ev x) (.p (.v (.bool g)))) (hd : Nat.blt d n = true) :
    Step P E kp n ops ⟨some d, .unOp .not T x, ty, ps, af, none⟩ st (st.put d (.p (.v (.bool (!g))))) :=
  S_pure _ rfl rfl hd fun a w φ Pub I hs => by
    have e1 := hx.v (hs x)
    exact ⟨.bool (!g), by simp [execOp, e1, Op.unary], by simp [RA, RP]⟩

/-- An operation under a guard. -/
theorem S_guard {o : Op} {j gs : Nat} {want g : Bool} {x : AV} (hj : (ops[j]?).bind (·.dst) = some gs) (hgs : st.ev (.tmp gs) = .p (.v (.bool g))) (hd : Nat.blt d n = true)
    (h : (g == want) = true → Step P E kp n ops ⟨some d, o, ty, ps, af, none⟩ st (st.put d x)) : Step P E kp n ops ⟨some d, o, ty, ps, af, some (j, want)⟩ st (st.put d (.cnd (g == want) x)) := by
  intro a w K Q hs hK
  obtain ⟨φ, Pub, I, h0, hn, hsl⟩ := hs
  have e0 := ev_R (h := st.heap) hsl (.tmp gs)
  have e1 : a.tmps.getD gs undef = .bool g := by
    have : RA w Pub φ (.p (.v (.bool g))) (a.eval (.tmp gs)) := by rw [← hgs]; exact e0
    unfold RA RP at this; exact this
  have hy : yielded ops a.tmps j = some g := by
    unfold yielded
    rw [hj]
    simp only [Option.bind_some]
    rw [Array.getD_eq_getD_getElem?] at e1
    cases hq : a.tmps[gs]? with
    | none => rw [hq] at e1; simp [undef] at e1
    | some v => rw [hq] at e1; simp at e1; rw [e1]
  have hw : Region.wanted ⟨some d, o, ty, ps, af, some (j, want)⟩ (yielded ops a.tmps) = (g == want) := by
    simp only [Region.wanted, hy]
    cases g <;> cases want <;> rfl
  rw [hw]
  by_cases hgw : (g == want) = true
  · rw [if_pos hgw]
    have := h hgw a w K Q ⟨φ, Pub, I, h0, hn, hsl⟩ (fun a' w' hs' => hK a' w' (by
      obtain ⟨φ', Pub', I', h0', hn', hsl'⟩ := hs'
      refine ⟨φ', Pub', I', h0', hn', fun s => ?_⟩
      have k := hsl' s
      simp only [AS.put, look_cons] at k ⊢
      split
      · next e => rw [if_pos e] at k; unfold RA; exact ⟨fun _ => k, fun hf => by rw [hgw] at hf; cases hf⟩
      · next e => rw [if_neg e] at k; exact k))
    rw [if_pos (by rfl)] at this
    exact this
  · rw [if_neg hgw]
    refine hK _ _ (Sat.put I h0 hn hsl hd ?_)
    unfold RA
    exact ⟨fun hh => absurd hh hgw, fun _ => rfl⟩
/-- A guard that is under a guard. -/
theorem S_guard2 {o : Op} {j gs : Nat} {want g q : Bool} {x : AV} (hj : (ops[j]?).bind (·.dst) = some gs) (hgs : st.ev (.tmp gs) = .cnd g (.p (.v (.bool q)))) (hd : Nat.blt d n = true)
    (h : (g && (q == want)) = true → Step P E kp n ops ⟨some d, o, ty, ps, af, none⟩ st (st.put d x)) : Step P E kp n ops ⟨some d, o, ty, ps, af, some (j, want)⟩ st (st.put d (.cnd (g && (q == want)) x)) := by
  intro a w K Q hs hK
  obtain ⟨φ, Pub, I, h0, hn, hsl⟩ := hs
  have e0 := ev_R (h := st.heap) hsl (.tmp gs)
  have e1 : (g = true → a.tmps.getD gs undef = .bool q) ∧ (g = false → a.tmps.getD gs undef = undef) := by
    have : RA w Pub φ (.cnd g (.p (.v (.bool q)))) (a.eval (.tmp gs)) := by rw [← hgs]; exact e0
    unfold RA at this
    exact ⟨fun hg => by have := this.1 hg; unfold RA RP at this; exact this, this.2⟩
  have hw : Region.wanted ⟨some d, o, ty, ps, af, some (j, want)⟩ (yielded ops a.tmps) = (g && (q == want)) := by
    simp only [Region.wanted, yielded, hj, Option.bind_some]
    rw [Array.getD_eq_getD_getElem?] at e1
    cases g with
    | true =>
      have e2 := e1.1 rfl
      cases hq : a.tmps[gs]? with
      | none => rw [hq] at e2; simp [undef] at e2
      | some v => rw [hq] at e2; simp at e2; subst e2; cases q <;> cases want <;> rfl
    | false =>
      have e2 := e1.2 rfl
      cases hq : a.tmps[gs]? with
      | none => rfl
      | some v => rw [hq] at e2; simp at e2; subst e2; rfl
  rw [hw]
  by_cases hgw : (g && (q == want)) = true
  · rw [if_pos hgw]
    have := h hgw a w K Q ⟨φ, Pub, I, h0, hn, hsl⟩ (fun a' w' hs' => hK a' w' (by
      obtain ⟨φ', Pub', I', h0', hn', hsl'⟩ := hs'
      refine ⟨φ', Pub', I', h0', hn', fun s => ?_⟩
      have k := hsl' s
      simp only [AS.put, look_cons] at k ⊢
      split
      · next e => rw [if_pos e] at k; unfold RA; exact ⟨fun _ => k, fun hf => by rw [hgw] at hf; cases hf⟩
      · next e => rw [if_neg e] at k; exact k))
    rw [if_pos (by rfl)] at this
    exact this
  · rw [if_neg hgw]
    refine hK _ _ (Sat.put I h0 hn hsl hd ?_)
    unfold RA
    exact ⟨fun hh => absurd hh hgw, fun _ => rfl⟩

/-! ### Numbers, strings -/
theorem S_bin {op : BinOp} {T T' : TypeId} {x y : Operand} {u v r : Value} (hx : Gv (st.ev x) (.p (.v u))) (hy : Gv (st.ev y) (.p (.v v))) (hd : Nat.blt d n = true)
    (hr : ∀ w, Sem.run P (do eqGuard op T x y u v; binOp op T u v) w = .ok r w) : Step P E kp n ops ⟨some d, .binOp op T x y T', ty, ps, af, none⟩ st (st.put d (.p (.v r))) :=
  S_pure _ rfl rfl hd fun a w φ Pub I hs => by
    have e1 := hx.v (hs x)
    have e2 := hy.v (hs y)
    have h := hr w
    refine ⟨r, ?_, by simp [RA, RP]⟩
    simp only [execOp, e1, e2]
    rw [Sem.run_bind, h]; rfl
section
variable {T T' : TypeId} {x y : Operand} {k : IntKind} {i j : Int} (hx : Gv (st.ev x) (.p (.v (.int k i)))) (hy : Gv (st.ev y) (.p (.v (.int k j)))) (hd : Nat.blt d n = true)
include hx hy hd
theorem S_lt : Step P E kp n ops ⟨some d, .binOp .lss T x y T', ty, ps, af, none⟩ st (st.put d (.p (.v (.bool (decide (i < j)))))) := S_bin hx hy hd fun w => by simp [eqGuard, binOp, Op.intCmp]
theorem S_le : Step P E kp n ops ⟨some d, .binOp .leq T x y T', ty, ps, af, none⟩ st (st.put d (.p (.v (.bool (decide (i ≤ j)))))) := S_bin hx hy hd fun w => by simp [eqGuard, binOp, Op.intCmp]
theorem S_gt : Step P E kp n ops ⟨some d, .binOp .gtr T x y T', ty, ps, af, none⟩ st (st.put d (.p (.v (.bool (decide (j < i)))))) := S_bin hx hy hd fun w => by simp [eqGuard, binOp, Op.intCmp]
theorem S_ge : Step P E kp n ops ⟨some d, .binOp .geq T x y T', ty, ps, af, none⟩ st (st.put d (.p (.v (.bool (decide (j ≤ i)))))) := S_bin hx hy hd fun w => by simp [eqGuard, binOp, Op.intCmp]
theorem S_eq : Step P E kp n ops ⟨some d, .binOp .eql T x y T', ty, ps, af, none⟩ st (st.put d (.p (.v (.bool (decide (i = j)))))) := S_bin hx hy hd fun w => by simp [eqGuard, binOp, Op.intCmp]; rfl
theorem S_ne : Step P E kp n ops ⟨some d, .binOp .neq T x y T', ty, ps, af, none⟩ st (st.put d (.p (.v (.bool (!decide (i = j)))))) := S_bin hx hy hd fun w => by simp [eqGuard, binOp, Op.intCmp]; rfl
theorem S_addk {r : Int} (hr : k.wrap (i + j) = r) : Step P E kp n ops ⟨some d, .binOp .add T x y T', ty, ps, af, none⟩ st (st.put d (.p (.v (.int k r)))) := S_bin hx hy hd fun w => by simp [eqGuard, binOp, Op.intArith, hr]
theorem S_subk {r : Int} (hr : k.wrap (i - j) = r) : Step P E kp n ops ⟨some d, .binOp .sub T x y T', ty, ps, af, none⟩ st (st.put d (.p (.v (.int k r)))) := S_bin hx hy hd fun w => by simp [eqGuard, binOp, Op.intArith, hr]
theorem S_mulk {r : Int} (hr : k.wrap (i * j) = r) : Step P E kp n ops ⟨some d, .binOp .mul T x y T', ty, ps, af, none⟩ st (st.put d (.p (.v (.int k r)))) := S_bin hx hy hd fun w => by simp [eqGuard, binOp, Op.intArith, hr]
theorem S_quok {r : Int} (h0 : j ≠ 0) (hr : k.wrap (i.tdiv j) = r) : Step P E kp n ops ⟨some d, .binOp .quo T x y T', ty, ps, af, none⟩ st (st.put d (.p (.v (.int k r)))) := S_bin hx hy hd fun w => by simp [eqGuard, binOp, Op.intDiv, h0, hr]
theorem S_remk {r : Int} (h0 : j ≠ 0) (hr : i.tmod j = r) : Step P E kp n ops ⟨some d, .binOp .rem T x y T', ty, ps, af, none⟩ st (st.put d (.p (.v (.int k r)))) := S_bin hx hy hd fun w => by simp [eqGuard, binOp, Op.intDiv, h0, hr]
theorem S_andk {r : Int} (hr : k.wrap ((BitVec.ofInt k.bits i &&& BitVec.ofInt k.bits j).toNat : Int) = r) : Step P E kp n ops ⟨some d, .binOp .and T x y T', ty, ps, af, none⟩ st (st.put d (.p (.v (.int k r)))) := S_bin hx hy hd fun w => by simp only [eqGuard, binOp, Op.intBits, hr]; simp
theorem S_ork {r : Int} (hr : k.wrap ((BitVec.ofInt k.bits i ||| BitVec.ofInt k.bits j).toNat : Int) = r) : Step P E kp n ops ⟨some d, .binOp .or T x y T', ty, ps, af, none⟩ st (st.put d (.p (.v (.int k r)))) := S_bin hx hy hd fun w => by simp only [eqGuard, binOp, Op.intBits, hr]; simp
theorem S_xork {r : Int} (hr : k.wrap ((BitVec.ofInt k.bits i ^^^ BitVec.ofInt k.bits j).toNat : Int) = r) : Step P E kp n ops ⟨some d, .binOp .xor T x y T', ty, ps, af, none⟩ st (st.put d (.p (.v (.int k r)))) := S_bin hx hy hd fun w => by simp only [eqGuard, binOp, Op.intBits, hr]; simp
theorem S_andNotk {r : Int} (hr : k.wrap ((BitVec.ofInt k.bits i &&& ~~~ BitVec.ofInt k.bits j).toNat : Int) = r) : Step P E kp n ops ⟨some d, .binOp .andNot T x y T', ty, ps, af, none⟩ st (st.put d (.p (.v (.int k r)))) := S_bin hx hy hd fun w => by simp only [eqGuard, binOp, Op.intBits, hr]; simp
end
theorem S_shrk {T T' : TypeId} {x y : Operand} {k k' : IntKind} {i j q : Int} (hx : Gv (st.ev x) (.p (.v (.int k i)))) (hy : Gv (st.ev y) (.p (.v (.int k' j)))) (hd : Nat.blt d n = true) (h0 : decide (j < 0) = false) (hq : (2 : Int) ^ (min j.toNat k.bits) = q) : Step P E kp n ops ⟨some d, .binOp .shr T x y T', ty, ps, af, none⟩ st (st.put d (.p (.v (.int k (i / q))))) := S_bin hx hy hd fun w => by
  have h0 := of_decide_eq_false h0
  have e : i.fdiv (2 ^ (min j.toNat k.bits)) = i / q := by
    rw [hq, Int.fdiv_eq_ediv_of_nonneg]
    rw [← hq]; exact Int.le_of_lt (Int.pow_pos (by decide))
  simp [eqGuard, binOp, Op.shift, h0, e]
theorem S_shlk {T T' : TypeId} {x y : Operand} {k k' : IntKind} {i j q r : Int} (hx : Gv (st.ev x) (.p (.v (.int k i)))) (hy : Gv (st.ev y) (.p (.v (.int k' j)))) (hd : Nat.blt d n = true) (h0 : decide (j < 0) = false) (hq : (2 : Int) ^ (min j.toNat k.bits) = q) (hr : k.wrap (i * q) = r) : Step P E kp n ops ⟨some d, .binOp .shl T x y T', ty, ps, af, none⟩ st (st.put d (.p (.v (.int k r)))) := S_bin hx hy hd fun w => by
  have h0 := of_decide_eq_false h0
  simp [eqGuard, binOp, Op.shift, h0, hq, hr]
end
end Go.Proofs.Ytnopdnclefopbaa
