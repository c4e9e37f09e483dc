/- The walk by computation, part FB: its texts one behind the other. It names no function of the program. -/
import Derived.WalkKit
import Derived.WalkSpells
import Derived.WalkLawsBesides
import Derived.Deep.QuietTactic
import Derived.BigQuiet
import Derived.Deep.RegionHeld3
import Derived.Lib.Hide
import Derived.Test.YtcebndkiagbddaaDoorFA
import Derived.Laws.StructEq
import Derived.Laws.Pointers
import Derived.Maps.RangeRun
namespace Go.Proofs.YtcebndkiagbddaaDoor
open Go.RowKit
set_option linter.unusedVariables false
set_option linter.unusedSimpArgs false

/-- A callee that leaves the world alone, met in a region that draws. -/
theorem quiet_same {P : Program} {f : FuncId} {args : Array Value} {w : World} {n : Nat} {v : Value}
    (h : Calls P f args (w.drewN n) fun e w' => e = .returned v ∧ w.drewN n = w') : Calls P f args (w.drewN n) fun e w'' => e = .returned v ∧ ∃ m, w'' = w.drewN m :=
  h.mono fun _ _ ⟨he, hm⟩ => ⟨he, n, hm.symm⟩
theorem bcell {W w1 : World} (hb : Below W.heap.size W w1) : (∀ b o, b < W.heap.size → w1.cell? ⟨b, o, none⟩ = W.cell? ⟨b, o, none⟩) ∧ (∀ b o, b < W.heap.size → w1.frozen? ⟨b, o, none⟩ = W.frozen? ⟨b, o, none⟩) :=
  ⟨fun b o h => hb.cell (p := ⟨b, o, none⟩) h, fun b o h => hb.frozen (p := ⟨b, o, none⟩) h⟩
theorem bcellR {RB : Nat} {W w1 : World} (hb : Below RB W w1) : ∀ b o, b < RB → w1.cell? ⟨b, o, none⟩ = W.cell? ⟨b, o, none⟩ := fun b o h => hb.cell (p := ⟨b, o, none⟩) h
theorem ret_int {k : IntKind} {a b : Int} (h : a = b) : Ending.returned (.int k a) = .returned (.int k b) := by rw [h]
theorem ret_bool {a b : Bool} (h : a = b) : Ending.returned (.bool a) = .returned (.bool b) := by rw [h]
theorem below_drewN {B : Nat} {a w : World} (h : Below B a w) (n : Nat) : Below B a (w.drewN n) := ⟨h.os, h.tape, h.output, h.size, h.block⟩
theorem size_drewN (w : World) (n : Nat) : (w.drewN n).heap.size = w.heap.size := rfl
section
variable {P : Program} {md : Region.Mode} {ops : Array Oper} {Q : Exit → Act → World → Prop} {S : World → Prop}
/-- One operation of a region that draws, taken first: it yields one value in every world that meets S. -/
theorem H_take {i : Nat} {oi : Oper} {fuel : Nat} {listed : Array Bool} {a : Act} {w : World} (hi : ops[i]? = some oi)
    (hs : Region.noSelect ops = true) (hf : Region.free md ops listed i = true) (hr : (Region.ready md ops listed).contains i = true)
    (hQ : ∀ v c a w, Q (.panic c) (a.put oi.dst v) w → Q (.panic c) a w) (hS : S w) (hw : Region.wanted oi (yielded ops a.tmps) = true)
    (h : ∃ v, (∀ w, S w → (execOp a.eval oi).run P w = .ok (.value v) w) ∧ wpAnyH P md ops Q S fuel (listed.setIfInBounds i true) (a.put oi.dst v) w) : wpAnyH P md ops Q S (fuel + 1) listed a w :=
  let ⟨v, h1, h2⟩ := h
  wpAnyH_take (v := v) hi hs hf hr (hQ v) (.inl ⟨hw, h1⟩) hS h2
/-- One whose guard says no. -/
theorem H_skip {i : Nat} {oi : Oper} {fuel : Nat} {listed : Array Bool} {a : Act} {w : World} (hi : ops[i]? = some oi)
    (hs : Region.noSelect ops = true) (hf : Region.free md ops listed i = true) (hr : (Region.ready md ops listed).contains i = true)
    (hQ : ∀ v c a w, Q (.panic c) (a.put oi.dst v) w → Q (.panic c) a w) (hS : S w) (hw : Region.wanted oi (yielded ops a.tmps) = false)
    (h : wpAnyH P md ops Q S fuel (listed.setIfInBounds i true) (a.put oi.dst undef) w) : wpAnyH P md ops Q S (fuel + 1) listed a w :=
  wpAnyH_take (v := undef) hi hs hf hr (hQ undef) (.inr ⟨hw, rfl⟩) hS h
/-- The one that alone may come up. -/
theorem H_one {i : Nat} {o : Oper} {fuel : Nat} {listed : Array Bool} {a : Act} {w : World} (hr : Region.ready md ops listed = [i]) (hi : ops[i]? = some o)
    (h : ∀ K' : Act → World → Prop, Shut (∀ a w, S w → (S w → wpAnyH P md ops Q S fuel (listed.setIfInBounds i true) a w) → K' a w) → if Region.wanted o (yielded ops a.tmps) = true then Oper.wp P o a w K' Q else K' (a.put o.dst undef) w) :
    wpAnyH P md ops Q S (fuel + 1) listed a w :=
  wpAnyH_ready hr (by simp) (AllReadyH.cons hi h AllReadyH.nil)
/-- S may grow on the way. -/
theorem H_turn (S' : World → Prop) (hS : ∀ w, S' w → S w) : ∀ (fuel : Nat) (listed : Array Bool) (a : Act) (w : World), wpAnyH P md ops Q S' fuel listed a w → wpAnyH P md ops Q S fuel listed a w
  | 0, _, _, _, h => h
  | fuel + 1, listed, a, w, h => ⟨h.1, fun i hi => wpOp_mono (fun _ _ ⟨h1, h2⟩ => ⟨hS _ h1, H_turn S' hS fuel _ _ _ h2⟩) (h.2 i hi)⟩
end
/-- A cell that was there when a class of worlds began is there in each of them. -/
theorem keeps {w0 w2 : World} (h : Below w0.heap.size w0 w2) {p : Addr} {v : Value} (hc : w0.cell? p = some v) : w2.cell? p = some v := by
  rw [h.cell (World.block_lt_of_cell? w0 p hc)]; exact hc
theorem keepsF {w0 w2 : World} (h : Below w0.heap.size w0 w2) {p : Addr} {b : Bool} (hl : p.block < w0.heap.size) (hc : w0.frozen? p = b) : w2.frozen? p = b := by
  rw [h.frozen hl]; exact hc
theorem below_step {w0 w1 w2 : World} (h : Below w0.heap.size w0 w1) (k : Below w1.heap.size w1 w2) : Below w0.heap.size w0 w2 := h.trans (k.mono h.size)
theorem below_of_eq {w w' : World} (h : w = w') : Below w.heap.size w w' := h ▸ Below.refl _ _
/-- A region that draws its order, every operation of which yields one value in every world of a class. -/
theorem wp_region_class {P : Program} (C : World → Prop) {id : Nat} {Q : Exit → Act → World → Prop} {a : Act} {w : World} {l : List Oper} (hm : P.follows .mixedOrders = true) (hB : Region.lexB .any l.toArray = true)
    (hC : C w.drew) (h : wpQuiet P l.toArray C (fun a' => ∀ w', C w' → Q .normal a' w') l a) : (Code.region id l.toArray true).wp P Q a w :=
  wp_region_quiet (C := C) hm hB hC (by simpa using h)
theorem quiet_call {P : Program} {f : FuncId} {args : Array Value} {w0 w : World} {v : Value} (h0 : Below w0.heap.size w0 w)
    (h : Calls P f args w fun e w' => e = .returned v ∧ Below w.heap.size w w') : Calls P f args w fun e w'' => e = .returned v ∧ Below w0.heap.size w0 w'' :=
  h.mono fun _ _ ⟨he, hm⟩ => ⟨he, below_step h0 hm⟩
theorem quiet_call_same {P : Program} {f : FuncId} {args : Array Value} {w0 w : World} {v : Value} (h0 : Below w0.heap.size w0 w)
    (h : Calls P f args w fun e w' => e = .returned v ∧ w = w') : Calls P f args w fun e w'' => e = .returned v ∧ Below w0.heap.size w0 w'' :=
  h.mono fun _ _ ⟨he, hm⟩ => ⟨he, hm ▸ h0⟩
theorem below_undrew {w w1 : World} (h : Below w.drew.heap.size w.drew w1) : Below w.heap.size w w1 := ⟨h.os, h.tape, h.output, h.size, h.block⟩
theorem drew_size (w : World) : w.drew.heap.size = w.heap.size := rfl
/-- The class for a region that ends in a store into a result's own block (from RB on). -/
theorem undr {RB : Nat} {w0 w' : World} (h : Below RB w0 w') : Below RB w0 w' ∧ ∀ b o, b < RB → w'.cell? ⟨b, o, none⟩ = w0.cell? ⟨b, o, none⟩ :=
  ⟨h, fun b o hb => h.cell (p := ⟨b, o, none⟩) hb⟩
theorem undr_step {RB : Nat} {w0 w1 w2 : World} (hRB : RB ≤ w0.heap.size) (h : Below RB w0 w1) (k : Below w1.heap.size w1 w2) : Below RB w0 w2 := h.trans (k.mono (Nat.le_trans hRB h.size))
theorem under {w0 w' : World} (h : Below w0.heap.size w0 w') : Below w0.heap.size w0 w' ∧ ∀ b o, b < w0.heap.size → w'.cell? ⟨b, o, none⟩ = w0.cell? ⟨b, o, none⟩ := ⟨h, (bcell h).1⟩
theorem under_drew {w0 w' : World} (h : Below w0.heap.size w0 w') : Below w0.heap.size w0 w'.drew ∧ ∀ b o, b < w0.heap.size → w'.drew.cell? ⟨b, o, none⟩ = w0.cell? ⟨b, o, none⟩ := under h.drew
/-- A variable of the call's own, made behind block B: what it holds. -/
def Fresh (B : Nat) (w : World) (v : Value) (cs : List Value) : Prop :=
  ∃ b, v = .pointer (some ⟨b, 0, none⟩) ∧ B ≤ b ∧ b < w.heap.size ∧ (∀ i u, cs[i]? = some u → w.cell? ⟨b, i, none⟩ = some u) ∧ ∀ o, w.frozen? ⟨b, o, none⟩ = false
theorem Fresh.below {B : Nat} {w w' : World} {v : Value} {cs : List Value} (h : Fresh B w v cs) (k : Below w.heap.size w w') : Fresh B w' v cs :=
  let ⟨b, h1, h2, h3, h4, h5⟩ := h
  ⟨b, h1, h2, Nat.lt_of_lt_of_le h3 k.size, fun i u hu => by rw [k.cell (p := ⟨b, i, none⟩) h3]; exact h4 i u hu, fun o => by rw [k.frozen (p := ⟨b, o, none⟩) h3]; exact h5 o⟩
theorem Fresh.made {B : Nat} {w : World} (cs : Array Value) (t : TypeId) (h : B ≤ w.heap.size) : Fresh B (w.alloc (.cells cs t)) (.pointer (some ⟨w.heap.size, 0, none⟩)) cs.toList :=
  ⟨w.heap.size, rfl, h, by simp, fun i u hu => by rw [World.cell?_alloc_new]; simpa using hu, fun o => by simp⟩
theorem Fresh.ne_new {B : Nat} {w : World} {v : Value} {cs : List Value} (h : Fresh B w v cs) : v ≠ .pointer (some ⟨w.heap.size, 0, none⟩) := by
  obtain ⟨b, rfl, _, h3, _⟩ := h
  intro h; injection h with h; injection h with h; injection h with h; omega
theorem below_alloc (w : World) (o : Obj) : Below w.heap.size w (w.alloc o) := (Below.refl _ _).alloc (Nat.le_refl _) _
theorem cell_at {w : World} {c : Array Value} {t : TypeId} {n : Nat} (hn : n = w.heap.size) (i : Nat) {v : Value} (h : c[i]? = some v) : (w.alloc (.cells c t)).cell? ⟨n, i, none⟩ = some v := by
  subst hn; rw [World.cell?_alloc_new]; exact h
theorem cell_up {w : World} {o : Obj} {p : Addr} {v : Value} (h : w.cell? p = some v) : (w.alloc o).cell? p = some v := keeps (below_alloc w o) h
theorem froz_at {w : World} {c : Array Value} {t : TypeId} {n : Nat} (hn : n = w.heap.size) (i : Nat) : (w.alloc (.cells c t)).frozen? ⟨n, i, none⟩ = false := by
  subst hn; simp
theorem froz_up {w : World} {o : Obj} {p : Addr} {b : Bool} (hl : p.block < w.heap.size) (h : w.frozen? p = b) : (w.alloc o).frozen? p = b := keepsF (below_alloc w o) hl h
end Go.Proofs.YtcebndkiagbddaaDoor

/- A region that draws its order and holds operations that float (an alloc beside calls): one condition on the frame and the world, kept by each operation, serves every order. It names no function of the program. -/
namespace Go.Proofs.YtcebndkiagbddaaDoor
open Go.RowKit
set_option linter.unusedVariables false
set_option linter.unusedSimpArgs false

/-- What an operation hangs on, directly. -/
def depsOf (ops : Array Oper) (i : Nat) : List Nat := ((ops[i]?).map fun o => (o.after.toList.filter fun e => Region.binds .any e).map (·.on)).getD []
def closeStep (ops : Array Oper) (s : List Nat) : List Nat := (List.range ops.size).filter fun j => s.contains j || s.any fun k => (depsOf ops k).contains j
def closeN (ops : Array Oper) : Nat → List Nat → List Nat
  | 0, s => s
  | n + 1, s => closeN ops n (closeStep ops s)
/-- The first m operations hang on earlier ones alone; each later one comes behind all of the first m. -/
def floatB (ops : Array Oper) (m : Nat) : Bool :=
  (List.range m).all (fun i => ((ops[i]?).map fun o => o.after.all fun e => !Region.binds .any e || decide (e.on < i)).getD false) &&
  (List.range ops.size).all (fun i => decide (i < m) || (List.range m).all fun j => (closeN ops m (depsOf ops i)).contains j)
theorem closeN_listed {ops : Array Oper} {L : Array Bool} (hdc : ∀ i, L.getD i false = true → ∀ j ∈ depsOf ops i, L.getD j false = true) :
    ∀ (n : Nat) (s : List Nat), (∀ j ∈ s, L.getD j false = true) → ∀ j ∈ closeN ops n s, L.getD j false = true
  | 0, _, h => h
  | n + 1, s, h => closeN_listed hdc n _ fun j hj => by
    unfold closeStep at hj
    rw [List.mem_filter] at hj
    have hj := hj.2
    rw [Bool.or_eq_true, List.any_eq_true] at hj
    rcases hj with hj | ⟨k, hk, hj⟩
    · exact h j (List.contains_iff_mem.1 hj)
    · exact hdc k (h k hk) j (List.contains_iff_mem.1 hj)
def firstM (n m : Nat) : Array Bool := (Array.range n).map (fun i => decide (i < m))
def unlisted (L : Array Bool) (m : Nat) : Nat := ((List.range m).filter fun i => !L.getD i true).length

theorem unlisted_set (L : Array Bool) (m i : Nat) (hi : i < m) (hs : i < L.size) (hL : L.getD i true = false) : unlisted (L.setIfInBounds i true) m + 1 = unlisted L m := by
  unfold unlisted
  have e : ∀ j, (L.setIfInBounds i true).getD j true = (if i = j then true else L.getD j true) := fun j => by
    simp only [Array.getD_eq_getD_getElem?, Array.getElem?_setIfInBounds]
    by_cases h : i = j
    · subst h; simp [hs]
    · simp [h]
  simp only [e]
  clear e
  induction m with
  | zero => omega
  | succ m ih =>
    rw [List.range_succ, List.filter_append, List.filter_append, List.length_append, List.length_append]
    by_cases h : i = m
    · subst h
      have : List.filter (fun j => !(if i = j then true else L.getD j true)) (List.range i) = List.filter (fun j => !L.getD j true) (List.range i) := by
        apply List.filter_congr; intro j hj; have := List.mem_range.1 hj; rw [if_neg (by omega)]
      rw [this]; rw [Array.getD_eq_getD_getElem?] at hL; simp [hL]
    · have := ih (by omega)
      rw [← this]; simp [List.filter_cons, h]; omega

section
variable {P : Program} {ops : Array Oper} {Q : Exit → Act → World → Prop} {S : World → Prop}

theorem wpAny_float {m : Nat} (hf : floatB ops m = true) (hm : m ≤ ops.size) (Inv : (Nat → Bool) → Act → World → Prop)
    (step : ∀ (L : Nat → Bool) a w i o (K : Act → World → Prop), i < m → ops[i]? = some o → L i = false → (o.after.all fun e => !Region.binds .any e || L e.on) = true → Inv L a w →
      (∀ a w, Inv (fun j => j == i || L j) a w → K a w) → if Region.wanted o (yielded ops a.tmps) = true then Oper.wp P o a w K Q else K (a.put o.dst undef) w)
    (fin : ∀ L a w, (∀ i, i < m → L i = true) → Inv L a w → wpAny P .any ops Q (ops.size - m) (firstM ops.size m) a w) :
    ∀ (f : Nat) (L : Array Bool) (a : Act) (w : World), L.size = ops.size → (∀ i, m ≤ i → i < ops.size → L.getD i true = false) → (∀ i, L.getD i false = true → ∀ j ∈ depsOf ops i, L.getD j false = true) → unlisted L m = f → Inv (fun i => L.getD i true) a w →
      wpAny P .any ops Q (f + (ops.size - m)) L a w := by
  unfold floatB at hf
  simp only [Bool.and_eq_true, List.all_eq_true, List.mem_range] at hf
  obtain ⟨hlow, hhigh⟩ := hf
  intro f
  induction f with
  | zero =>
    intro L a w hs hh hdc hu hI
    have hall : ∀ i, i < m → L.getD i true = true := by
      intro i hi
      have h0 : (List.range m).filter (fun i => !L.getD i true) = [] := List.length_eq_zero_iff.1 hu
      rw [List.filter_eq_nil_iff] at h0
      simpa using h0 i (List.mem_range.2 hi)
    have hL : L = firstM ops.size m := by
      apply Array.ext
      · simp [firstM, hs]
      · intro i h1 h2
        have hi : i < ops.size := by omega
        simp only [firstM, Array.getElem_map, Array.getElem_range]
        by_cases h : i < m
        · have := hall i h; rw [Array.getD_eq_getD_getElem?, Array.getElem?_eq_getElem h1] at this; simpa [h] using this
        · have := hh i (by omega) hi; rw [Array.getD_eq_getD_getElem?, Array.getElem?_eq_getElem h1] at this; simpa [h] using this
    rw [Nat.zero_add, hL]
    exact fin _ a w hall hI
  | succ f ih =>
    intro L a w hs hh hdc hu hI
    rw [show f + 1 + (ops.size - m) = (f + (ops.size - m)) + 1 from by omega]
    -- somebody is ready
    have hex : ∃ i, i < m ∧ L.getD i true = false := by
      refine Classical.byContradiction fun hn => ?_
      have : (List.range m).filter (fun i => !L.getD i true) = [] := by
        rw [List.filter_eq_nil_iff]; intro i hi
        have hi := List.mem_range.1 hi
        cases h : L.getD i true with
        | true => simp
        | false => exact absurd ⟨i, hi, h⟩ hn
      unfold unlisted at hu; rw [this] at hu; simp at hu
    have hready : Region.ready .any ops L ≠ [] := by
      -- the least one
      have hmin : ∀ n i, i ≤ n → i < m → L.getD i true = false → ∃ k, k < m ∧ L.getD k true = false ∧ ∀ j, j < k → L.getD j true = true := by
        intro n
        induction n with
        | zero => intro i h0 h1 h2; exact ⟨i, h1, h2, fun j hj => by omega⟩
        | succ n ihn =>
          intro i h0 h1 h2
          by_cases hq : ∃ j, j < i ∧ L.getD j true = false
          · obtain ⟨j, hj, hj2⟩ := hq; exact ihn j (by omega) (by omega) hj2
          · refine ⟨i, h1, h2, fun j hj => ?_⟩
            cases h : L.getD j true with
            | true => rfl
            | false => exact absurd ⟨j, hj, h⟩ hq
      obtain ⟨i, hi, hi2⟩ := hex
      obtain ⟨k, hk, hk2, hk3⟩ := hmin i i (Nat.le_refl _) hi hi2
      have : k ∈ Region.ready .any ops L := by
        unfold Region.ready
        rw [List.mem_filter]
        refine ⟨List.mem_range.2 (by omega), ?_⟩
        rw [hk2]
        have h1 := hlow k hk
        cases ho : ops[k]? with
        | none => rw [ho] at h1; simp at h1
        | some o =>
          rw [ho] at h1
          simp only [Option.map_some, Option.getD_some, Bool.not_false, Bool.true_and, Array.all_eq_true] at h1 ⊢
          intro e he
          have h2 := h1 e he
          simp only [Bool.or_eq_true, Bool.not_eq_true', decide_eq_true_eq] at h2 ⊢
          rcases h2 with h2 | h2
          · exact .inl h2
          · refine .inr ?_
            have h3 := hk3 _ h2
            have h4 : (o.after[e]).on < L.size := by omega
            rw [Array.getD_eq_getD_getElem?, Array.getElem?_eq_getElem h4] at h3 ⊢
            simpa using h3
      intro h; rw [h] at this; cases this
    refine ⟨fun h => absurd h hready, fun i hi => ?_⟩
    unfold Region.ready at hi
    rw [List.mem_filter] at hi
    obtain ⟨hi1, hi2⟩ := hi
    have hi1 := List.mem_range.1 hi1
    simp only [Bool.and_eq_true, Bool.not_eq_true'] at hi2
    obtain ⟨hi2, hi3⟩ := hi2
    have hready2 : ∀ j ∈ depsOf ops i, L.getD j false = true := by
      unfold depsOf
      cases ho : ops[i]? with
      | none => simp
      | some o =>
        rw [ho] at hi3
        simp only [Option.map_some, Option.getD_some, Array.all_eq_true, Bool.or_eq_true, Bool.not_eq_true'] at hi3 ⊢
        intro j hj
        rw [List.mem_map] at hj
        obtain ⟨e, he, rfl⟩ := hj
        rw [List.mem_filter] at he
        obtain ⟨x, hx, hx2⟩ := Array.mem_iff_getElem.1 (Array.mem_def.2 he.1)
        rcases hi3 x hx with h2 | h2
        · rw [hx2, he.2] at h2; cases h2
        · rw [hx2] at h2; exact h2
    have him : i < m := by
      refine Classical.byContradiction fun hn => ?_
      obtain ⟨k, hk, hk2⟩ := hex
      have h1 := hhigh i hi1
      simp only [Bool.or_eq_true, decide_eq_true_eq, hn, false_or, List.all_eq_true, List.mem_range] at h1
      have h2 := closeN_listed hdc m (depsOf ops i) hready2 k (List.contains_iff_mem.1 (h1 k hk))
      have h4 : k < L.size := by omega
      rw [Array.getD_eq_getD_getElem?, Array.getElem?_eq_getElem h4] at h2 hk2
      simp at h2 hk2; rw [h2] at hk2; cases hk2
    cases ho : ops[i]? with
    | none => rw [ho] at hi3; simp at hi3
    | some o =>
      refine wpOp_step ho fun K' hK' => ?_
      rw [ho] at hi3
      have hd : (o.after.all fun e => !Region.binds .any e || L.getD e.on true) = true := by
        simp only [Option.map_some, Option.getD_some, Array.all_eq_true, Bool.or_eq_true, Bool.not_eq_true'] at hi3 ⊢
        intro e he
        rcases hi3 e he with h2 | h2
        · exact .inl h2
        · refine .inr ?_
          rw [Array.getD_eq_getD_getElem?] at h2 ⊢
          cases h5 : L[o.after[e].on]? with
          | none => rw [h5] at h2; simp at h2
          | some b => rw [h5] at h2; simpa using h2
      refine step _ a w i o K' him ho hi2 hd hI fun a' w' hI' => hK' a' w' (ih _ a' w' (by simp [hs]) ?_ ?_ ?_ ?_)
      · intro j hj hj2
        rw [Array.getD_eq_getD_getElem?, Array.getElem?_setIfInBounds, if_neg (by omega), ← Array.getD_eq_getD_getElem?]
        exact hh j hj hj2
      · intro k hk j hj
        have hmon : ∀ j, L.getD j false = true → (L.setIfInBounds i true).getD j false = true := fun j h => by
          simp only [Array.getD_eq_getD_getElem?, Array.getElem?_setIfInBounds] at h ⊢
          by_cases h1 : i = j
          · subst h1; simp [show i < L.size by omega]
          · rw [if_neg h1]; exact h
        by_cases h1 : i = k
        · subst h1; exact hmon j (hready2 j hj)
        · refine hmon j (hdc k ?_ j hj)
          simp only [Array.getD_eq_getD_getElem?, Array.getElem?_setIfInBounds, if_neg h1] at hk ⊢; exact hk
      · have := unlisted_set L m i him (by omega) hi2; omega
      · have e : (fun j => (L.setIfInBounds i true).getD j true) = (fun j => j == i || L.getD j true) := by
          funext j
          simp only [Array.getD_eq_getD_getElem?, Array.getElem?_setIfInBounds]
          by_cases h : i = j
          · subst h; simp [show i < L.size by omega]
          · simp [h, Ne.symm h]
        rw [e]; exact hI'

theorem unlisted_none (n m : Nat) (h : m ≤ n) : unlisted (Array.replicate n false) m = m := by
  unfold unlisted
  rw [List.filter_eq_self.2, List.length_range]
  intro i hi
  have := List.mem_range.1 hi
  rw [Array.getD_eq_getD_getElem?, Array.getElem?_replicate, if_pos (by omega)]; rfl

/-- **ONE CONDITION, KEPT BY EACH OPERATION, SERVES EVERY ORDER**; behind the first m the rest comes in order. -/
theorem wp_region_float {m id : Nat} {a : Act} {w : World} (hx : P.follows .mixedOrders = true) (hf : floatB ops m = true) (hm : decide (m ≤ ops.size) = true) (Inv : (Nat → Bool) → Act → World → Prop)
    (h0 : ∀ L : Nat → Bool, (∀ i, i < m → L i = false) → Inv L a w.drew)
    (step : ∀ (L : Nat → Bool) a w i o (K : Act → World → Prop), i < m → ops[i]? = some o → L i = false → (o.after.all fun e => !Region.binds .any e || L e.on) = true → Inv L a w →
      (∀ a w, Inv (fun j => j == i || L j) a w → K a w) → if Region.wanted o (yielded ops a.tmps) = true then Oper.wp P o a w K Q else K (a.put o.dst undef) w)
    (fin : ∀ L a w, (∀ i, i < m → L i = true) → Inv L a w → wpAnyH P .any ops Q S (ops.size - m) (firstM ops.size m) a w) : (Code.region id ops true).wp P Q a w := by
  have hm := of_decide_eq_true hm
  have h := wpAny_float hf hm Inv step (fun L a w h1 h2 => wpAny_of_held _ _ _ _ (fin L a w h1 h2)) m (Array.replicate ops.size false) a w.drew (by simp) (fun i _ h2 => by
      rw [Array.getD_eq_getD_getElem?, Array.getElem?_replicate, if_pos h2]; rfl) (fun i hi => by
      rw [Array.getD_eq_getD_getElem?, Array.getElem?_replicate] at hi; split at hi <;> simp at hi) (unlisted_none _ _ hm) (h0 _ (fun i hi => by
      rw [Array.getD_eq_getD_getElem?, Array.getElem?_replicate, if_pos (by omega)]; rfl))
  rw [show m + (ops.size - m) = ops.size from by omega] at h
  exact wp_region_any hx h
end
end Go.Proofs.YtcebndkiagbddaaDoor

/- A region that draws its order, over values without addresses: its operations make slots and new blocks; what each makes is the same in whatever order. It names no function of the program. -/
namespace Go.Proofs.YtcebndkiagbddaaDoor
open Go.RowKit
set_option linter.unusedVariables false
set_option linter.unusedSimpArgs false

/-- What an operation makes. -/
structure Eff where
  dst : Option Nat
  val : AV
  hp : List (Nat × OB)
def Eff.sl (e : Eff) : List (Nat × AV) := match e.dst with | some d => [(d, e.val)] | none => []
def Eff.is (e : Eff) (s : Nat) : Bool := match e.dst with | some d => Nat.beq d s | none => false
/-- Which operation makes slot s? -/
def maker (s : Nat) : Nat → List Eff → Option (Nat × AV)
  | _, [] => none
  | i, e :: es => bif e.is s then some (i, e.val) else maker s (i + 1) es
/-- Which operation makes block r? -/
def hmaker (r : Nat) : Nat → List Eff → Option (Nat × OB)
  | _, [] => none
  | i, e :: es => bif (look OB.dead e.hp r).alive then some (i, look OB.dead e.hp r) else hmaker r (i + 1) es
def memN (i : Nat) : List Nat → Bool
  | [] => false
  | j :: l => Nat.beq i j || memN i l
theorem memN_iff {i : Nat} : ∀ {l : List Nat}, memN i l = true ↔ i ∈ l
  | [] => by simp [memN]
  | j :: l => by
    simp only [memN, Bool.or_eq_true, List.mem_cons, memN_iff (l := l)]
    constructor
    · rintro (h | h)
      · exact .inl (Nat.eq_of_beq_eq_true h)
      · exact .inr h
    · rintro (h | h)
      · subst h; exact .inl (by simp)
      · exact .inr h
/-- The operations that o hangs on, at whatever distance. -/
def clos (ops : Array Oper) (i : Nat) : List Nat := closeN ops ops.size (depsOf ops i)
def rdOf (ops : Array Oper) (o : Oper) : List Nat := o.looksAt ops
/-- What is known of slot s when operation i runs. -/
def kn (ops : Array Oper) (effs : List Eff) (base : AS) (i s : Nat) : Option AV :=
  match maker s 0 effs with
  | some (j, v) => bif memN j (depsOf ops i) then some v else none
  | none => some (look AV.any base.slots s)
def knH (ops : Array Oper) (effs : List Eff) (base : AS) (i r : Nat) : Option OB :=
  match hmaker r 0 effs with
  | some (j, v) => bif memN j (clos ops i) then some v else none
  | none => bif (look OB.dead base.heap r).alive then some (look OB.dead base.heap r) else none

section
variable {P : Program} {E : Env} {kp : List Nat} {n : Nat} {ops : Array Oper} {Q : Exit → Act → World → Prop} {base st st' : AS}

/-- Operation i makes e, behind those that it hangs on. -/
def FStep (P : Program) (E : Env) (kp : List Nat) (n : Nat) (ops : Array Oper) (base : AS) (effs : List Eff) (i : Nat) (e : Eff) : Prop :=
  ∀ o, ops[i]? = some o → ∀ st : AS, (∀ s v, memN s (rdOf ops o) = true → kn ops effs base i s = some v → look AV.any st.slots s = v) → (∀ r ob, knH ops effs base i r = some ob → st.ob r = ob) → freeAll st kp e.hp = true →
    Step P E kp n ops o st ⟨e.sl ++ st.slots, e.hp ++ st.heap⟩
def StepsOk (P : Program) (E : Env) (kp : List Nat) (n : Nat) (ops : Array Oper) (base : AS) (effs : List Eff) : Prop := ∀ i e, effs[i]? = some e → FStep P E kp n ops base (effs.take i) i e
def allSl : List Eff → List (Nat × AV)
  | [] => []
  | e :: es => e.sl ++ allSl es
def allHp : List Eff → List (Nat × OB)
  | [] => []
  | e :: es => e.hp ++ allHp es
/-- The goal behind some effects. -/
def AF (P : Program) (E : Env) (kp : List Nat) (n : Nat) (ops : Array Oper) (base : AS) (effs : List Eff) (G : Prop) : Prop := StepsOk P E kp n ops base effs → G
theorem AF.start {G : Prop} (h : AF P E kp n ops base [] G) : G := h (fun i e he => by simp at he)
theorem AF.step {effs : List Eff} {G : Prop} {i : Nat} {o : Oper} {e : Eff} (hi : effs.length = i) (ho : ops[i]? = some o)
    (h : ∀ st : AS, (∀ s v, memN s (rdOf ops o) = true → kn ops effs base i s = some v → look AV.any st.slots s = v) → (∀ r ob, knH ops effs base i r = some ob → st.ob r = ob) → freeAll st kp e.hp = true → Step P E kp n ops o st ⟨e.sl ++ st.slots, e.hp ++ st.heap⟩)
    (k : AF P E kp n ops base (effs ++ [e]) G) : AF P E kp n ops base effs G := fun hs => k fun j e' hj => by
  rcases Nat.lt_trichotomy j effs.length with hlt | heq | hgt
  · rw [List.getElem?_append_left hlt] at hj
    rw [List.take_append_of_le_length (Nat.le_of_lt hlt)]
    exact hs j e' hj
  · subst heq
    rw [List.getElem?_append_right (Nat.le_refl _)] at hj
    simp at hj; subst hj
    rw [List.take_append_of_le_length (Nat.le_refl _), List.take_length]
    subst hi
    intro o' ho'
    rw [ho] at ho'; cases ho'
    exact h
  · rw [List.getElem?_eq_none (by simp; omega)] at hj; cases hj

theorem AF.begin {id : Nat} (h : AF P E kp n ops base [] (AW P E kp n (.region id ops true) Q base)) : AW P E kp n (.region id ops true) Q base := AF.start h
theorem AF.val {effs : List Eff} {G : Prop} {i d : Nat} {o : Oper} {v : AV} (hi : effs.length = i) (ho : ops[i]? = some o)
    (h : ∀ st : AS, (∀ s v, memN s (rdOf ops o) = true → kn ops effs base i s = some v → look AV.any st.slots s = v) → (∀ r ob, knH ops effs base i r = some ob → st.ob r = ob) → Step P E kp n ops o st (st.put d v))
    (k : AF P E kp n ops base (effs ++ [⟨some d, v, []⟩]) G) : AF P E kp n ops base effs G := AF.step (e := ⟨some d, v, []⟩) hi ho (fun st ha hb _ => h st ha hb) k
theorem AF.blk {effs : List Eff} {G : Prop} {i d r : Nat} {o : Oper} {v : AV} {ob : OB} (hi : effs.length = i) (ho : ops[i]? = some o)
    (h : ∀ st : AS, (∀ s v, memN s (rdOf ops o) = true → kn ops effs base i s = some v → look AV.any st.slots s = v) → (∀ r ob, knH ops effs base i r = some ob → st.ob r = ob) → st.free kp r = true → Step P E kp n ops o st ⟨(d, v) :: st.slots, (r, ob) :: st.heap⟩)
    (k : AF P E kp n ops base (effs ++ [⟨some d, v, [(r, ob)]⟩]) G) : AF P E kp n ops base effs G := AF.step (e := ⟨some d, v, [(r, ob)]⟩) hi ho (fun st ha hb hf => h st ha hb (by
      simp only [freeAll, Bool.and_true] at hf; exact hf)) k
theorem AF.cal {effs : List Eff} {G : Prop} {i d : Nat} {o : Oper} {v : AV} {hout : List (Nat × OB)} (hi : effs.length = i) (ho : ops[i]? = some o)
    (h : ∀ st : AS, (∀ s v, memN s (rdOf ops o) = true → kn ops effs base i s = some v → look AV.any st.slots s = v) → (∀ r ob, knH ops effs base i r = some ob → st.ob r = ob) → freeAll st kp hout = true → Step P E kp n ops o st ⟨(d, v) :: st.slots, hout ++ st.heap⟩)
    (k : AF P E kp n ops base (effs ++ [⟨some d, v, hout⟩]) G) : AF P E kp n ops base effs G := AF.step (e := ⟨some d, v, hout⟩) hi ho h k

/-- A slot's value, out of what is known. -/
theorem Gv.k {s : Nat} {v x : AV} (h : look AV.any st.slots s = v) (hx : Gv v x) : Gv (st.ev (.tmp s)) x := by
  show Gv (look AV.any st.slots s) x; rw [h]; exact hx

/-! What is checked of the effects, at the end. -/
/-- No slot is made twice; no block is. -/
def once : List Eff → Bool
  | [] => true
  | e :: es => (match e.dst with | some d => (maker d 0 es).isNone | none => true) && e.hp.all (fun p => (hmaker p.1 0 es).isNone && p.2.alive) && once es
/-- Whoever makes a slot that operation i reads, hangs on i or comes ahead of it in the text. -/
def rdOk (ops : Array Oper) (effs : List Eff) : Bool :=
  (List.range effs.length).all fun i => match ops[i]? with
    | none => true
    | some o => (rdOf ops o).all fun s => match maker s 0 effs with
      | none => true
      | some (k, _) => Nat.blt k i || memN i (clos ops k)
/-- The new blocks' names are new, and whoever speaks of one hangs on its maker. -/
def nmOk (ops : Array Oper) (effs : List Eff) (base : AS) (kp : List Nat) : Bool :=
  freeAll base kp (allHp effs) &&
  (List.range effs.length).all fun i => match effs[i]? with
    | none => true
    | some e => e.hp.all fun p => (List.range effs.length).all fun j => Nat.beq i j || (match effs[j]? with
      | none => true
      | some e' => !(e'.val.has p.1) && !(hHas p.1 e'.hp) || memN i (clos ops j))

def selSl (L : Nat → Bool) : Nat → List Eff → List (Nat × AV)
  | _, [] => []
  | i, e :: es => if L i = true then e.sl ++ selSl L (i + 1) es else selSl L (i + 1) es
def selHp (L : Nat → Bool) : Nat → List Eff → List (Nat × OB)
  | _, [] => []
  | i, e :: es => if L i = true then e.hp ++ selHp L (i + 1) es else selHp L (i + 1) es
theorem maker_ge {s : Nat} : ∀ {es : List Eff} {i j : Nat} {v : AV}, maker s i es = some (j, v) → i ≤ j ∧ j < i + es.length ∧ ∃ e, es[j - i]? = some e ∧ e.is s = true ∧ e.val = v
  | [], i, j, v, h => by simp [maker] at h
  | e :: es, i, j, v, h => by
    simp only [maker] at h
    cases he : e.is s with
    | true =>
      rw [he] at h; simp at h
      obtain ⟨rfl, rfl⟩ := h
      exact ⟨Nat.le_refl _, by simp, e, by simp, he, rfl⟩
    | false =>
      rw [he] at h; simp at h
      obtain ⟨h1, h2, e', h3, h4⟩ := maker_ge h
      exact ⟨by omega, by simp; omega, e', by rw [show j - i = (j - (i + 1)) + 1 from by omega]; simpa using h3, h4⟩
theorem hmaker_ge {r : Nat} : ∀ {es : List Eff} {i j : Nat} {v : OB}, hmaker r i es = some (j, v) → i ≤ j ∧ j < i + es.length ∧ ∃ e, es[j - i]? = some e ∧ (look OB.dead e.hp r).alive = true ∧ look OB.dead e.hp r = v
  | [], i, j, v, h => by simp [hmaker] at h
  | e :: es, i, j, v, h => by
    simp only [hmaker] at h
    cases he : (look OB.dead e.hp r).alive with
    | true =>
      rw [he] at h; simp at h
      obtain ⟨rfl, rfl⟩ := h
      exact ⟨Nat.le_refl _, by simp, e, by simp, he, rfl⟩
    | false =>
      rw [he] at h; simp at h
      obtain ⟨h1, h2, e', h3, h4⟩ := hmaker_ge h
      exact ⟨by omega, by simp; omega, e', by rw [show j - i = (j - (i + 1)) + 1 from by omega]; simpa using h3, h4⟩
theorem maker_take {s : Nat} : ∀ {es : List Eff} {i m j : Nat} {v : AV}, maker s i (es.take m) = some (j, v) → maker s i es = some (j, v)
  | [], i, m, j, v, h => by simp [maker] at h
  | e :: es, i, 0, j, v, h => by simp [maker] at h
  | e :: es, i, m + 1, j, v, h => by
    simp only [List.take_succ_cons, maker] at h ⊢
    cases he : e.is s with
    | true => rw [he] at h; exact h
    | false => rw [he] at h; simp at h ⊢; exact maker_take h
theorem maker_take_none {s : Nat} : ∀ {es : List Eff} {i m j : Nat} {v : AV}, maker s i (es.take m) = none → maker s i es = some (j, v) → i + m ≤ j
  | [], i, m, j, v, _, h => by simp [maker] at h
  | e :: es, i, 0, j, v, _, h => (maker_ge h).1
  | e :: es, i, m + 1, j, v, h0, h => by
    simp only [List.take_succ_cons, maker] at h0 h
    cases he : e.is s with
    | true => rw [he] at h0; simp at h0
    | false => rw [he] at h0 h; simp at h0 h; have := maker_take_none h0 h; omega
theorem hmaker_take {r : Nat} : ∀ {es : List Eff} {i m j : Nat} {v : OB}, hmaker r i (es.take m) = some (j, v) → hmaker r i es = some (j, v)
  | [], i, m, j, v, h => by simp [hmaker] at h
  | e :: es, i, 0, j, v, h => by simp [hmaker] at h
  | e :: es, i, m + 1, j, v, h => by
    simp only [List.take_succ_cons, hmaker] at h ⊢
    cases he : (look OB.dead e.hp r).alive with
    | true => rw [he] at h; exact h
    | false => rw [he] at h; simp at h ⊢; exact hmaker_take h
theorem look_sl (e : Eff) (X : List (Nat × AV)) (s : Nat) : look AV.any (e.sl ++ X) s = if e.is s = true then e.val else look AV.any X s := by
  unfold Eff.sl Eff.is
  cases e.dst with
  | none => simp
  | some d =>
    simp only [List.cons_append, List.nil_append, look_cons]
    by_cases h : d = s
    · subst h; simp
    · rw [if_neg h, if_neg (fun hb => h (Nat.eq_of_beq_eq_true hb))]
theorem look_hp (l X : List (Nat × OB)) (hal : l.all (fun p => p.2.alive) = true) (r : Nat) : look OB.dead (l ++ X) r = if (look OB.dead l r).alive = true then look OB.dead l r else look OB.dead X r := by
  induction l with
  | nil => simp [look, OB.alive]
  | cons p l ih =>
    obtain ⟨k, ob⟩ := p
    simp only [List.all_cons, Bool.and_eq_true] at hal
    rw [List.cons_append, look_cons, look_cons]
    by_cases h : k = r
    · rw [if_pos h, if_pos h, if_pos hal.1]
    · rw [if_neg h, if_neg h]; exact ih hal.2
theorem once_is {e : Eff} {es : List Eff} (h : once (e :: es) = true) {s : Nat} (hs : e.is s = true) : maker s 0 es = none := by
  simp only [once, Bool.and_eq_true] at h
  unfold Eff.is at hs
  cases hd : e.dst with
  | none => rw [hd] at hs; cases hs
  | some d =>
    rw [hd] at hs h
    have := Nat.eq_of_beq_eq_true hs; subst this
    simpa using h.1.1
theorem maker_shift {s : Nat} : ∀ {es : List Eff} (i k : Nat), maker s i es = none → maker s k es = none
  | [], i, k, h => rfl
  | e :: es, i, k, h => by
    simp only [maker] at h ⊢
    cases he : e.is s with
    | true => rw [he] at h; simp at h
    | false => rw [he] at h; simp at h ⊢; exact maker_shift (i + 1) (k + 1) h
theorem hmaker_shift {r : Nat} : ∀ {es : List Eff} (i k : Nat), hmaker r i es = none → hmaker r k es = none
  | [], i, k, h => rfl
  | e :: es, i, k, h => by
    simp only [hmaker] at h ⊢
    cases he : (look OB.dead e.hp r).alive with
    | true => rw [he] at h; simp at h
    | false => rw [he] at h; simp at h ⊢; exact hmaker_shift (i + 1) (k + 1) h
theorem once_tail {e : Eff} {es : List Eff} (h : once (e :: es) = true) : once es = true := by
  simp only [once, Bool.and_eq_true] at h; exact h.2
theorem once_hp {e : Eff} {es : List Eff} (h : once (e :: es) = true) : e.hp.all (fun p => p.2.alive) = true := by
  simp only [once, Bool.and_eq_true, List.all_eq_true] at h ⊢
  exact fun p hp => (h.1.2 p hp).2
theorem look_mem : ∀ {l : List (Nat × OB)} {r : Nat}, (look OB.dead l r).alive = true → (r, look OB.dead l r) ∈ l
  | [], r, h => by cases h
  | (k, x) :: l, r, h => by
    rw [look_cons] at h ⊢
    by_cases e : k = r
    · subst e; rw [if_pos rfl]; simp
    · rw [if_neg e] at h ⊢; exact List.mem_cons_of_mem _ (look_mem h)
theorem once_hm {e : Eff} {es : List Eff} (h : once (e :: es) = true) {r : Nat} (hr : (look OB.dead e.hp r).alive = true) : hmaker r 0 es = none := by
  simp only [once, Bool.and_eq_true, List.all_eq_true] at h
  have := (h.1.2 _ (look_mem hr)).1
  simpa using this
theorem look_sel (L : Nat → Bool) (X : List (Nat × AV)) (s : Nat) : ∀ (es : List Eff) (i : Nat), once es = true →
    look AV.any (selSl L i es ++ X) s = (match maker s i es with | some (j, v) => if L j = true then v else look AV.any X s | none => look AV.any X s)
  | [], i, _ => rfl
  | e :: es, i, h => by
    have ih := look_sel L X s es (i + 1) (once_tail h)
    simp only [selSl, maker]
    cases he : e.is s with
    | true =>
      have hn := maker_shift 0 (i + 1) (once_is h he)
      rw [hn] at ih
      simp only [cond_true]
      by_cases hL : L i = true
      · rw [if_pos hL, if_pos hL, List.append_assoc, look_sl, if_pos he]
      · rw [if_neg hL, if_neg hL]; exact ih
    | false =>
      simp only [cond_false]
      rw [← ih]
      by_cases hL : L i = true
      · rw [if_pos hL, List.append_assoc, look_sl, if_neg (by rw [he]; simp)]
      · rw [if_neg hL]
theorem look_selH (L : Nat → Bool) (X : List (Nat × OB)) (r : Nat) : ∀ (es : List Eff) (i : Nat), once es = true →
    look OB.dead (selHp L i es ++ X) r = (match hmaker r i es with | some (j, v) => if L j = true then v else look OB.dead X r | none => look OB.dead X r)
  | [], i, _ => rfl
  | e :: es, i, h => by
    have ih := look_selH L X r es (i + 1) (once_tail h)
    simp only [selHp, hmaker]
    cases he : (look OB.dead e.hp r).alive with
    | true =>
      have hn := hmaker_shift 0 (i + 1) (once_hm h he)
      rw [hn] at ih
      simp only [cond_true]
      by_cases hL : L i = true
      · rw [if_pos hL, if_pos hL, List.append_assoc, look_hp _ _ (once_hp h), if_pos he]
      · rw [if_neg hL, if_neg hL]; exact ih
    | false =>
      simp only [cond_false]
      rw [← ih]
      by_cases hL : L i = true
      · rw [if_pos hL, List.append_assoc, look_hp _ _ (once_hp h), if_neg (by rw [he]; simp)]
      · rw [if_neg hL]
theorem sel_all (L : Nat → Bool) : ∀ (es : List Eff) (i : Nat), (∀ j, i ≤ j → j < i + es.length → L j = true) → selSl L i es = allSl es ∧ selHp L i es = allHp es
  | [], i, _ => ⟨rfl, rfl⟩
  | e :: es, i, h => by
    obtain ⟨h1, h2⟩ := sel_all L es (i + 1) (fun j hj hj2 => h j (by omega) (by simp at hj2 ⊢; omega))
    simp only [selSl, selHp, allSl, allHp]
    rw [if_pos (h i (Nat.le_refl _) (by simp)), if_pos (h i (Nat.le_refl _) (by simp)), h1, h2]
    exact ⟨rfl, rfl⟩
theorem Sat.congr {a : Act} {w : World} (hs : ∀ s, look AV.any st'.slots s = look AV.any st.slots s) (hh : ∀ r, look OB.dead st'.heap r = look OB.dead st.heap r) (h : Sat E kp n st a w) : Sat E kp n st' a w := by
  obtain ⟨φ, Pub, I, h0, hn, hsl⟩ := h
  exact ⟨φ, Pub, I.sub (fun r => .inl (hh r)), h0, hn, fun s => by rw [hs]; exact hsl s⟩
theorem closeN_in {L : Nat → Bool} (hdc : ∀ i, L i = true → ∀ j ∈ depsOf ops i, L j = true) : ∀ (k : Nat) (s : List Nat), (∀ j ∈ s, L j = true) → ∀ j ∈ closeN ops k s, L j = true
  | 0, _, h => h
  | k + 1, s, h => closeN_in hdc k _ fun j hj => by
    unfold closeStep at hj
    rw [List.mem_filter] at hj
    have hj := hj.2
    rw [Bool.or_eq_true, List.any_eq_true] at hj
    rcases hj with hj | ⟨k, hk, hj⟩
    · exact h j (List.contains_iff_mem.1 hj)
    · exact hdc k (h k hk) j (List.contains_iff_mem.1 hj)
def AD (P : Program) (E : Env) (kp : List Nat) (n : Nat) (ops : Array Oper) (Q : Exit → Act → World → Prop) (fuel : Nat) (listed : Array Bool) (st : AS) : Prop := ∀ a w, Sat E kp n st a w → wpAny P .any ops Q fuel listed a w
theorem hHas_append (r : Nat) : ∀ (l m : List (Nat × OB)), hHas r (l ++ m) = (hHas r l || hHas r m)
  | [], m => by simp [hHas]
  | p :: l, m => by simp only [List.cons_append, hHas, hHas_append r l m, Bool.or_assoc]
theorem sHas_append (r : Nat) : ∀ (l m : List (Nat × AV)), sHas r (l ++ m) = (sHas r l || sHas r m)
  | [], m => by simp [sHas]
  | p :: l, m => by simp only [List.cons_append, sHas, sHas_append r l m, Bool.or_assoc]
theorem hHas_sel (r : Nat) (L : Nat → Bool) : ∀ (es : List Eff) (i : Nat), (∀ j e, es[j]? = some e → L (i + j) = true → hHas r e.hp = false) → hHas r (selHp L i es) = false
  | [], i, _ => rfl
  | e :: es, i, h => by
    have ih := hHas_sel r L es (i + 1) (fun j e' hj hL => h (j + 1) e' (by simpa using hj) (by rwa [show i + (j + 1) = i + 1 + j from by omega]))
    simp only [selHp]
    split
    · next hL => rw [hHas_append, ih, h 0 e rfl (by simpa using hL)]; rfl
    · exact ih
theorem sHas_sel (r : Nat) (L : Nat → Bool) : ∀ (es : List Eff) (i : Nat), (∀ j e, es[j]? = some e → L (i + j) = true → e.val.has r = false) → sHas r (selSl L i es) = false
  | [], i, _ => rfl
  | e :: es, i, h => by
    have ih := sHas_sel r L es (i + 1) (fun j e' hj hL => h (j + 1) e' (by simpa using hj) (by rwa [show i + (j + 1) = i + 1 + j from by omega]))
    simp only [selSl]
    split
    · next hL =>
      rw [sHas_append, ih]
      have := h 0 e rfl (by simpa using hL)
      unfold Eff.sl
      cases e.dst <;> simp [sHas, this]
    · exact ih
theorem freeAll_mem : ∀ {l : List (Nat × OB)} {p : Nat × OB}, freeAll st kp l = true → p ∈ l → st.free kp p.1 = true
  | (k, x) :: l, p, h, hp => by
    simp only [freeAll, Bool.and_eq_true] at h
    rcases List.mem_cons.1 hp with e | e
    · subst e; exact h.1
    · exact freeAll_mem h.2 e
theorem freeAll_mk : ∀ {l : List (Nat × OB)}, (∀ p ∈ l, st.free kp p.1 = true) → freeAll st kp l = true
  | [], _ => rfl
  | (k, x) :: l, h => by
    simp only [freeAll, Bool.and_eq_true]
    exact ⟨h (k, x) (by simp), freeAll_mk fun p hp => h p (List.mem_cons_of_mem _ hp)⟩
theorem mem_allHp : ∀ {es : List Eff} {i : Nat} {e : Eff} {p : Nat × OB}, es[i]? = some e → p ∈ e.hp → p ∈ allHp es
  | e :: es, 0, e', p, h, hp => by simp at h; subst h; simp [allHp, hp]
  | e :: es, i + 1, e', p, h, hp => by simp only [allHp, List.mem_append]; exact .inr (mem_allHp (by simpa using h) hp)
theorem free_mk {r : Nat} (h1 : (look OB.dead st.heap r).alive = false) (h2 : hHas r st.heap = false) (h3 : sHas r st.slots = false) (h4 : r ∉ kp) : st.free kp r = true := by
  unfold AS.free
  rw [h1, h2, h3]
  have : kp.contains r = false := by
    cases hc : kp.contains r with
    | false => rfl
    | true => exact absurd (List.contains_iff_mem.1 hc) h4
  rw [this]; rfl
theorem hmaker_mem {r : Nat} : ∀ {es : List Eff} {i : Nat} {e : Eff}, once es = true → es[i]? = some e → (look OB.dead e.hp r).alive = true → ∀ k, hmaker r k es = some (k + i, look OB.dead e.hp r)
  | e :: es, 0, e', ho, h, hr, k => by
    simp at h; subst h
    simp only [hmaker, hr]; rfl
  | e :: es, i + 1, e', ho, h, hr, k => by
    have ih := hmaker_mem (once_tail ho) (by simpa using h) hr (k + 1)
    simp only [hmaker]
    cases he : (look OB.dead e.hp r).alive with
    | true =>
      have := hmaker_shift 0 (k + 1) (once_hm ho he)
      rw [this] at ih; cases ih
    | false => simp only [cond_false]; rw [ih, show k + 1 + i = k + (i + 1) from by omega]
theorem maker_mem {s : Nat} : ∀ {es : List Eff} {i : Nat} {e : Eff}, once es = true → es[i]? = some e → e.is s = true → ∀ k, maker s k es = some (k + i, e.val)
  | e :: es, 0, e', ho, h, hr, k => by
    simp at h; subst h
    simp only [maker, hr]; rfl
  | e :: es, i + 1, e', ho, h, hr, k => by
    have ih := maker_mem (once_tail ho) (by simpa using h) hr (k + 1)
    simp only [maker]
    cases he : e.is s with
    | true =>
      have := maker_shift 0 (k + 1) (once_is ho he)
      rw [this] at ih; cases ih
    | false => simp only [cond_false]; rw [ih, show k + 1 + i = k + (i + 1) from by omega]
theorem look_all_alive {l : List (Nat × OB)} {p : Nat × OB} (hal : l.all (fun p => p.2.alive) = true) (hp : p ∈ l) : (look OB.dead l p.1).alive = true := by
  induction l with
  | nil => cases hp
  | cons q l ih =>
    obtain ⟨k, x⟩ := q
    simp only [List.all_cons, Bool.and_eq_true] at hal
    rw [look_cons]
    by_cases e : k = p.1
    · rw [if_pos e]; exact hal.1
    · rw [if_neg e]
      rcases List.mem_cons.1 hp with h | h
      · subst h; exact absurd rfl e
      · exact ih hal.2 h
theorem once_hp_all : ∀ {es : List Eff} {i : Nat} {e : Eff}, once es = true → es[i]? = some e → e.hp.all (fun p => p.2.alive) = true
  | e :: es, 0, e', h, hi => by simp at hi; subst hi; exact once_hp h
  | e :: es, i + 1, e', h, hi => once_hp_all (once_tail h) (by simpa using hi)

/-- **The end of a region that draws its order**: behind the effects of the first m operations the others come in turn. -/
theorem AF.done {effs : List Eff} {id m : Nat} (hx : P.follows .mixedOrders = true) (hlen : effs.length = m) (hf : floatB ops m = true) (hmn : decide (m ≤ ops.size) = true) (h1 : once effs = true) (h2 : rdOk ops effs = true) (h3 : nmOk ops effs base kp = true)
    (k : AD P E kp n ops Q (ops.size - m) (firstM ops.size m) ⟨allSl effs ++ base.slots, allHp effs ++ base.heap⟩) : AF P E kp n ops base effs (AW P E kp n (.region id ops true) Q base) := by
  intro hs a w hsat
  have hm := of_decide_eq_true hmn
  have hf' := hf
  unfold floatB at hf'
  simp only [Bool.and_eq_true, List.all_eq_true, List.mem_range] at hf'
  obtain ⟨hlow, _⟩ := hf'
  have hdep : ∀ i, i < m → ∀ j ∈ depsOf ops i, j < i := fun i hi j hj => by
    have h0 := hlow i hi
    unfold depsOf at hj
    cases ho : ops[i]? with
    | none => rw [ho] at hj; simp at hj
    | some o =>
      rw [ho] at h0 hj
      simp only [Option.map_some, Option.getD_some, Array.all_eq_true] at h0 hj
      rw [List.mem_map] at hj
      obtain ⟨e, he, rfl⟩ := hj
      rw [List.mem_filter] at he
      obtain ⟨x, hx, hx2⟩ := Array.mem_iff_getElem.1 (Array.mem_def.2 he.1)
      have := h0 x hx
      rw [hx2] at this
      simp only [Bool.or_eq_true, Bool.not_eq_true', decide_eq_true_eq] at this
      rcases this with h5 | h5
      · rw [he.2] at h5; cases h5
      · exact h5
  let S : (Nat → Bool) → AS := fun L => ⟨selSl L 0 effs ++ base.slots, selHp L 0 effs ++ base.heap⟩
  let DC : (Nat → Bool) → Prop := fun L => ∀ i, i < m → L i = true → ∀ j ∈ depsOf ops i, L j = true
  have hcl : ∀ L, DC L → ∀ i, i < m → (∀ j ∈ depsOf ops i, L j = true) → ∀ j ∈ clos ops i, L j = true := fun L hDC i hi hd j hj => by
    have key := closeN_in (ops := ops) (L := fun x => L x && decide (x < m)) (fun x hx y hy => by
      simp only [Bool.and_eq_true, decide_eq_true_eq] at hx ⊢
      exact ⟨hDC x hx.2 hx.1 y hy, Nat.lt_trans (hdep x hx.2 y hy) hx.2⟩) ops.size (depsOf ops i) (fun y hy => by
      simp only [Bool.and_eq_true, decide_eq_true_eq]
      exact ⟨hd y hy, Nat.lt_trans (hdep i hi y hy) hi⟩) j hj
    simp only [Bool.and_eq_true] at key
    exact key.1
  unfold nmOk at h3
  simp only [Bool.and_eq_true, List.all_eq_true, List.mem_range] at h3
  obtain ⟨h3a, h3b⟩ := h3
  unfold rdOk at h2
  simp only [List.all_eq_true, List.mem_range] at h2
  have hfin := wpAny_float (P := P) (ops := ops) (Q := Q) (m := m) hf hm (fun L a w => Sat E kp n (S L) a w ∧ DC L) ?step ?fin m (Array.replicate ops.size false) a w.drew (by simp) (fun i _ hi => by
      rw [Array.getD_eq_getD_getElem?, Array.getElem?_replicate, if_pos hi]; rfl) (fun i hi => by
      rw [Array.getD_eq_getD_getElem?, Array.getElem?_replicate] at hi; split at hi <;> simp at hi) (unlisted_none _ _ hm) ⟨?start, fun i hi hL => by
      simp only [Array.getD_eq_getD_getElem?, Array.getElem?_replicate] at hL
      rw [if_pos (by omega)] at hL; simp at hL⟩
  case start =>
    obtain ⟨φ, Pub, I, h0, hn, hsl⟩ := hsat
    have : Sat E kp n base a w.drew := ⟨φ, Pub, I.drew, h0, hn, fun s => RA_mono adv_drew _ _ (fun _ _ => rfl) (hsl s)⟩
    refine this.congr (fun s => ?_) (fun r => ?_)
    · show look AV.any (selSl _ 0 effs ++ base.slots) s = _
      rw [look_sel _ _ _ _ _ h1]
      cases hk : maker s 0 effs with
      | none => rfl
      | some p =>
        obtain ⟨j, v⟩ := p
        have := (maker_ge hk).2.1
        simp only
        rw [if_neg]
        simp only [Array.getD_eq_getD_getElem?, Array.getElem?_replicate]
        rw [if_pos (by omega)]; simp
    · show look OB.dead (selHp _ 0 effs ++ base.heap) r = _
      rw [look_selH _ _ _ _ _ h1]
      cases hk : hmaker r 0 effs with
      | none => rfl
      | some p =>
        obtain ⟨j, v⟩ := p
        have := (hmaker_ge hk).2.1
        simp only
        rw [if_neg]
        simp only [Array.getD_eq_getD_getElem?, Array.getElem?_replicate]
        rw [if_pos (by omega)]; simp
  case fin =>
    intro L a w hall ⟨hS, _⟩
    obtain ⟨e1, e2⟩ := sel_all L effs 0 (fun j _ hj => hall j (by omega))
    have hS' : Sat E kp n ⟨allSl effs ++ base.slots, allHp effs ++ base.heap⟩ a w := by rw [← e1, ← e2]; exact hS
    exact k a w hS'
  case step =>
    intro L a w i o K hi ho hLi hd ⟨hS, hDC⟩ hK
    obtain ⟨e, he⟩ : ∃ e, effs[i]? = some e := ⟨_, List.getElem?_eq_getElem (by omega)⟩
    have hdL : ∀ j ∈ depsOf ops i, L j = true := fun j hj => by
      unfold depsOf at hj
      rw [ho] at hj
      simp only [Option.map_some, Option.getD_some] at hj
      rw [List.mem_map] at hj
      obtain ⟨x, hx, rfl⟩ := hj
      rw [List.mem_filter] at hx
      obtain ⟨y, hy, hy2⟩ := Array.mem_iff_getElem.1 (Array.mem_def.2 hx.1)
      rw [Array.all_eq_true] at hd
      have := hd y hy
      rw [hy2] at this
      simp only [Bool.or_eq_true, Bool.not_eq_true'] at this
      rcases this with h5 | h5
      · rw [hx.2] at h5; cases h5
      · exact h5
    have hC := hcl L hDC i hi hdL
    have hnot : ∀ x, x < m → L x = true → i ∉ clos ops x := fun x hx hLx hmem => by
      have := hcl L hDC x hx (hDC x hx hLx) i hmem
      rw [hLi] at this; cases this
    have hstep := hs i e he o ho (S L) (fun s v hrd hkn => ?_) (fun r ob hkn => ?_) (freeAll_mk fun p hp => ?_)
    · refine hstep a w K Q hS (fun a' w' hs' => hK a' w' ⟨hs'.congr (fun s => ?_) (fun r => ?_), fun x hx hLx y hy => ?_⟩)
      · show look AV.any (selSl (fun j => j == i || L j) 0 effs ++ base.slots) s = look AV.any (e.sl ++ (selSl L 0 effs ++ base.slots)) s
        rw [look_sl, look_sel _ _ _ _ _ h1, look_sel _ _ _ _ _ h1]
        cases hes : e.is s with
        | true =>
          rw [maker_mem h1 he hes 0, if_pos rfl]; simp
        | false =>
          rw [if_neg (by simp)]
          cases hk : maker s 0 effs with
          | none => rfl
          | some p =>
            obtain ⟨j, v⟩ := p
            simp only
            have hji : j ≠ i := fun e2 => by
              subst e2
              obtain ⟨_, _, e', h4, h5, _⟩ := maker_ge hk
              rw [Nat.sub_zero, he] at h4; cases h4; rw [hes] at h5; cases h5
            simp [hji]
      · show look OB.dead (selHp (fun j => j == i || L j) 0 effs ++ base.heap) r = look OB.dead (e.hp ++ (selHp L 0 effs ++ base.heap)) r
        rw [look_hp _ _ (once_hp_all h1 he), look_selH _ _ _ _ _ h1, look_selH _ _ _ _ _ h1]
        cases hes : (look OB.dead e.hp r).alive with
        | true =>
          rw [hmaker_mem h1 he hes 0, if_pos rfl]; simp
        | false =>
          rw [if_neg (by simp)]
          cases hk : hmaker r 0 effs with
          | none => rfl
          | some p =>
            obtain ⟨j, v⟩ := p
            simp only
            have hji : j ≠ i := fun e2 => by
              subst e2
              obtain ⟨_, _, e', h4, h5, _⟩ := hmaker_ge hk
              rw [Nat.sub_zero, he] at h4; cases h4; rw [hes] at h5; cases h5
            simp [hji]
      · simp only [Bool.or_eq_true, beq_iff_eq] at hLx ⊢
        rcases hLx with rfl | hLx
        · exact .inr (hdL y hy)
        · exact .inr (hDC x hx hLx y hy)
    · -- a slot that is read
      show look AV.any (selSl L 0 effs ++ base.slots) s = v
      rw [look_sel _ _ _ _ _ h1]
      unfold kn at hkn
      cases hk : maker s 0 (effs.take i) with
      | some p =>
        obtain ⟨j, v'⟩ := p
        rw [hk] at hkn
        simp only at hkn
        cases hj : memN j (depsOf ops i) with
        | false => rw [hj] at hkn; cases hkn
        | true =>
          rw [hj] at hkn; simp at hkn; subst hkn
          rw [maker_take hk]
          simp only
          rw [if_pos (hdL j (memN_iff.1 hj))]
      | none =>
        rw [hk] at hkn; simp at hkn; subst hkn
        cases hk2 : maker s 0 effs with
        | none => rfl
        | some p =>
          obtain ⟨j, v'⟩ := p
          have hge := maker_take_none hk hk2
          have hjm := (maker_ge hk2).2.1
          simp only
          rw [if_neg]
          intro hLj
          have := h2 i (by omega)
          rw [ho] at this
          simp only at this
          have := List.all_eq_true.1 this s (memN_iff.1 hrd)
          rw [hk2] at this
          simp only [Bool.or_eq_true] at this
          rcases this with h5 | h5
          · rw [Nat.blt_eq] at h5; omega
          · exact hnot j (by omega) hLj (memN_iff.1 h5)
    · show look OB.dead (selHp L 0 effs ++ base.heap) r = ob
      rw [look_selH _ _ _ _ _ h1]
      unfold knH at hkn
      cases hk : hmaker r 0 (effs.take i) with
      | some p =>
        obtain ⟨j, v'⟩ := p
        rw [hk] at hkn
        simp only at hkn
        cases hj : memN j (clos ops i) with
        | false => rw [hj] at hkn; cases hkn
        | true =>
          rw [hj] at hkn; simp at hkn; subst hkn
          rw [hmaker_take hk]
          simp only
          rw [if_pos (hC j (memN_iff.1 hj))]
      | none =>
        rw [hk] at hkn; simp only at hkn
        cases hal : (look OB.dead base.heap r).alive with
        | false => rw [hal] at hkn; cases hkn
        | true =>
          rw [hal] at hkn; simp at hkn; subst hkn
          cases hk2 : hmaker r 0 effs with
          | none => rfl
          | some p =>
            obtain ⟨j, v'⟩ := p
            obtain ⟨_, hjm, e', h4, h5, h6⟩ := hmaker_ge hk2
            have := freeAll_mem h3a (mem_allHp h4 (look_mem h5))
            have := (free_split this).1
            rw [hal] at this; cases this
    · -- a name is free
      have hb := free_split (freeAll_mem h3a (mem_allHp he hp))
      have hpa := look_all_alive (once_hp_all h1 he) hp
      have h3i := h3b i (by omega)
      rw [he] at h3i
      simp only [List.all_eq_true, List.mem_range] at h3i
      have hno : ∀ j e', effs[j]? = some e' → L j = true → e'.val.has p.1 = false ∧ hHas p.1 e'.hp = false := fun j e' hj hLj => by
        have hjm : j < effs.length := (List.getElem?_eq_some_iff.1 hj).1
        have := h3i p hp j hjm
        rw [hj] at this
        simp only [Bool.or_eq_true, Bool.and_eq_true, Bool.not_eq_true'] at this
        rcases this with h5 | h5 | h5
        · have := Nat.eq_of_beq_eq_true h5; subst this; rw [hLi] at hLj; cases hLj
        · exact h5
        · exact absurd (memN_iff.1 h5) (hnot j (by omega) hLj)
      refine free_mk ?_ ?_ ?_ hb.2.2.2
      · show (look OB.dead (selHp L 0 effs ++ base.heap) p.1).alive = false
        rw [look_selH _ _ _ _ _ h1, hmaker_mem h1 he hpa 0]
        simp only [Nat.zero_add]
        rw [if_neg (by rw [hLi]; simp)]; exact hb.1
      · show hHas p.1 (selHp L 0 effs ++ base.heap) = false
        rw [hHas_append, hb.2.1, hHas_sel _ _ _ _ (fun j e' hj hLj => (hno j e' hj (by simpa using hLj)).2)]; rfl
      · show sHas p.1 (selSl L 0 effs ++ base.slots) = false
        rw [sHas_append, hb.2.2.1, sHas_sel _ _ _ _ (fun j e' hj hLj => (hno j e' hj (by simpa using hLj)).1)]; rfl
  rw [show m + (ops.size - m) = ops.size from by omega] at hfin
  exact wp_region_any hx hfin

/-- Behind the first ones: the one that alone may come. -/
theorem AD.one {i fuel : Nat} {o : Oper} {listed : Array Bool} (hr : Region.ready .any ops listed = [i]) (hi : ops[i]? = some o) (h : Step P E kp n ops o st st') (k : AD P E kp n ops Q fuel (listed.setIfInBounds i true) st') : AD P E kp n ops Q (fuel + 1) listed st := by
  intro a w hs
  refine ⟨(fun h0 => by rw [hr] at h0; cases h0), fun j hj => ?_⟩
  rw [hr] at hj
  simp at hj; subst hj
  exact wpOp_step hi fun K hK => h a w K Q hs fun a' w' hs' => hK _ _ (k a' w' hs')
theorem AD.nil {fuel : Nat} {listed : Array Bool} (hr : Region.ready .any ops listed = []) (h : To E kp n Q .normal st) : AD P E kp n ops Q fuel listed st := by
  intro a w hs
  cases fuel with
  | zero => exact ⟨hr, h a w hs⟩
  | succ f => exact ⟨fun _ => h a w hs, fun i hi => by rw [hr] at hi; cases hi⟩
end
end Go.Proofs.YtcebndkiagbddaaDoor

/- A call that is given blocks of its caller's own, under the contract's names. It names no function of the program. -/
namespace Go.Proofs.YtcebndkiagbddaaDoor
open Go.RowKit
set_option linter.unusedVariables false
set_option linter.unusedSimpArgs false

/-- Names are turned by a list of pairs. -/
def sg (σ : List (Nat × Nat)) (q : Nat) : Nat := look 0 σ q
/-- Which name is turned to r? -/
def sgi (r : Nat) : List (Nat × Nat) → Option Nat
  | [] => none
  | (q, x) :: σ => bif Nat.beq x r then some q else sgi r σ
def domN (q : Nat) : List (Nat × Nat) → Bool
  | [] => false
  | (k, _) :: σ => Nat.beq k q || domN q σ
/-- No name stands twice, on either side. -/
def sgOk : List (Nat × Nat) → Bool
  | [] => true
  | (q, x) :: σ => !domN q σ && (sgi x σ).isNone && sgOk σ
mutual
def AV.sg (σ : List (Nat × Nat)) : AV → AV
  | .p x => .p x
  | .agg l => .agg (sgL σ l)
  | .tup l => .tup (sgL σ l)
  | .own q off => .own (YtcebndkiagbddaaDoor.sg σ q) off
  | .osl q n => .osl (YtcebndkiagbddaaDoor.sg σ q) n
  | .mref q => .mref (YtcebndkiagbddaaDoor.sg σ q)
  | .oss q k n s => .oss (YtcebndkiagbddaaDoor.sg σ q) k n s
  | .cnd g x => .cnd g (AV.sg σ x)
  | .any => .any
def sgL (σ : List (Nat × Nat)) : List AV → List AV
  | [] => []
  | x :: xs => AV.sg σ x :: sgL σ xs
end
mutual
/-- All names are turned. -/
def AV.inD (σ : List (Nat × Nat)) : AV → Bool
  | .p _ => true
  | .agg l => inDL σ l
  | .tup l => inDL σ l
  | .own q _ => domN q σ
  | .osl q _ => domN q σ
  | .mref q => domN q σ
  | .oss q _ _ _ => domN q σ
  | .cnd _ x => AV.inD σ x
  | .any => true
def inDL (σ : List (Nat × Nat)) : List AV → Bool
  | [] => true
  | x :: xs => AV.inD σ x && inDL σ xs
end
def OB.sg (σ : List (Nat × Nat)) : OB → OB
  | .box cells t => .box (sgL σ cells) t
  | .it m a b c => .it (YtcebndkiagbddaaDoor.sg σ m) a b c
  | x => x
def OB.inD (σ : List (Nat × Nat)) : OB → Bool
  | .box cells _ => inDL σ cells
  | .it m _ _ _ => domN m σ
  | _ => true
theorem sgi_sg : ∀ {σ : List (Nat × Nat)} {q : Nat}, sgOk σ = true → domN q σ = true → sgi (sg σ q) σ = some q
  | [], q, _, h => by cases h
  | (k, x) :: σ, q, ho, h => by
    simp only [sgOk, Bool.and_eq_true, Bool.not_eq_true'] at ho
    obtain ⟨⟨h1, h2⟩, h3⟩ := ho
    unfold sg
    rw [look_cons]
    by_cases e : k = q
    · subst e; simp [sgi]
    · rw [if_neg e]
      have hd : domN q σ = true := by
        simp only [domN, Bool.or_eq_true] at h
        rcases h with h | h
        · exact absurd (Nat.eq_of_beq_eq_true h) e
        · exact h
      have ih := sgi_sg h3 hd
      unfold sg at ih
      simp only [sgi]
      cases hx : Nat.beq x (look 0 σ q) with
      | false => exact ih
      | true =>
        have := Nat.eq_of_beq_eq_true hx
        rw [← this] at ih; rw [ih] at h2; cases h2
theorem sgi_some : ∀ {σ : List (Nat × Nat)} {r q : Nat}, sgOk σ = true → sgi r σ = some q → domN q σ = true ∧ sg σ q = r
  | [], r, q, _, h => by cases h
  | (k, x) :: σ, r, q, ho, h => by
    simp only [sgOk, Bool.and_eq_true, Bool.not_eq_true'] at ho
    simp only [sgi] at h
    unfold sg
    rw [look_cons]
    cases hx : Nat.beq x r with
    | true =>
      rw [hx] at h; simp at h; subst h
      exact ⟨by simp [domN], by rw [if_pos rfl]; exact Nat.eq_of_beq_eq_true hx⟩
    | false =>
      rw [hx] at h; simp at h
      obtain ⟨h1, h2⟩ := sgi_some ho.2 h
      have hne : k ≠ q := fun e => by subst e; rw [h1] at ho; simp at ho
      exact ⟨by simp [domN, h1], by rw [if_neg hne]; exact h2⟩
section
variable {w : World} {Pub : Nat → Nat → Prop} {φ ψ : Ghost} {σ : List (Nat × Nat)}
mutual
/-- What a turned value is, under places that are turned back. -/
theorem RA_sg (H : ∀ q, domN q σ = true → ψ (sg σ q) = φ q) : ∀ (x : AV) (u : Value), x.inD σ = true → (RA w Pub ψ (x.sg σ) u ↔ RA w Pub φ x u)
  | .p x, u, _ => by simp only [AV.sg, RA]
  | .agg l, u, h => by
    unfold AV.inD at h
    simp only [AV.sg, RA]
    constructor
    · rintro ⟨vs, e, k⟩; exact ⟨vs, e, (RAs_sg H l vs h).1 k⟩
    · rintro ⟨vs, e, k⟩; exact ⟨vs, e, (RAs_sg H l vs h).2 k⟩
  | .tup l, u, h => by
    unfold AV.inD at h
    simp only [AV.sg, RA]
    constructor
    · rintro ⟨vs, e, k⟩; exact ⟨vs, e, (RAs_sg H l vs h).1 k⟩
    · rintro ⟨vs, e, k⟩; exact ⟨vs, e, (RAs_sg H l vs h).2 k⟩
  | .own q off, u, h => by unfold AV.inD at h; simp only [AV.sg, RA, H q h]
  | .osl q n, u, h => by unfold AV.inD at h; simp only [AV.sg, RA, H q h]
  | .mref q, u, h => by unfold AV.inD at h; simp only [AV.sg, RA, H q h]
  | .oss q _ _ _, u, h => by unfold AV.inD at h; simp only [AV.sg, RA, H q h]
  | .cnd g x, u, h => by
    unfold AV.inD at h
    simp only [AV.sg, RA]
    constructor
    · rintro ⟨k1, k2⟩; exact ⟨fun hg => (RA_sg H x u h).1 (k1 hg), k2⟩
    · rintro ⟨k1, k2⟩; exact ⟨fun hg => (RA_sg H x u h).2 (k1 hg), k2⟩
  | .any, u, _ => by simp only [AV.sg, RA]
theorem RAs_sg (H : ∀ q, domN q σ = true → ψ (sg σ q) = φ q) : ∀ (l : List AV) (us : List Value), inDL σ l = true → (RAs w Pub ψ (sgL σ l) us ↔ RAs w Pub φ l us)
  | [], us, _ => by simp only [sgL, RAs]
  | x :: xs, us, h => by
    simp only [inDL, Bool.and_eq_true] at h
    simp only [sgL, RAs]
    constructor
    · rintro ⟨u, us', e, k1, k2⟩; exact ⟨u, us', e, (RA_sg H x u h.1).1 k1, (RAs_sg H xs us' h.2).1 k2⟩
    · rintro ⟨u, us', e, k1, k2⟩; exact ⟨u, us', e, (RA_sg H x u h.1).2 k1, (RAs_sg H xs us' h.2).2 k2⟩
end
theorem Hp_sg (H : ∀ q, domN q σ = true → ψ (sg σ q) = φ q) {q : Nat} (hq : domN q σ = true) {ob : OB} (hi : ob.inD σ = true) : Hp w Pub ψ (sg σ q) (ob.sg σ) ↔ Hp w Pub φ q ob := by
  cases ob with
  | dead => exact Iff.rfl
  | row cells t sz pub => simp only [OB.sg, Hp, H q hq]
  | obj p => simp only [OB.sg, Hp, H q hq]
  | it m a b c => have hm : domN m σ = true := hi; simp only [OB.sg, Hp, H q hq, H m hm]
  | box cells t =>
    simp only [OB.sg, Hp, H q hq]
    constructor
    · rintro ⟨b, cur, k1, k2, k3, k4⟩; exact ⟨b, cur, k1, k2, (RAs_sg H cells _ hi).1 k3, k4⟩
    · rintro ⟨b, cur, k1, k2, k3, k4⟩; exact ⟨b, cur, k1, k2, (RAs_sg H cells _ hi).2 k3, k4⟩
end
/-- The blocks of a contract, under the caller's names. -/
def sgH (σ : List (Nat × Nat)) : List (Nat × OB) → List (Nat × OB)
  | [] => []
  | (q, ob) :: h => (sg σ q, ob.sg σ) :: sgH σ h
def inDH (σ : List (Nat × Nat)) : List (Nat × OB) → Bool
  | [] => true
  | (q, ob) :: h => domN q σ && ob.inD σ && inDH σ h
/-- The blocks that come in are gone. -/
def deadH (σ : List (Nat × Nat)) : List (Nat × OB) → List (Nat × OB)
  | [] => []
  | (q, _) :: h => (sg σ q, .dead) :: deadH σ h
/-- The blocks that come in are those of the caller's. -/
def sameH (st : AS) (σ : List (Nat × Nat)) : List (Nat × OB) → Prop
  | [] => True
  | (q, ob) :: h => st.ob (sg σ q) = ob.sg σ ∧ ob.alive = true ∧ sameH st σ h
/-- Names of the contract that do not come in are free. -/
def newOk (st : AS) (kp : List Nat) (hin : List (Nat × OB)) : List (Nat × Nat) → Bool
  | [] => true
  | (q, x) :: σ => ((look OB.dead hin q).alive || st.free kp x) && newOk st kp hin σ
theorem look_sgH {σ : List (Nat × Nat)} (ho : sgOk σ = true) {q : Nat} (hq : domN q σ = true) : ∀ {h : List (Nat × OB)}, inDH σ h = true → look OB.dead (sgH σ h) (sg σ q) = (look OB.dead h q).sg σ
  | [], _ => rfl
  | (k, ob) :: h, hi => by
    simp only [inDH, Bool.and_eq_true] at hi
    simp only [sgH, look_cons]
    by_cases e : k = q
    · subst e; rw [if_pos rfl, if_pos rfl]
    · have : sg σ k ≠ sg σ q := fun e2 => by
        have h1 := sgi_sg ho hi.1.1
        have h2 := sgi_sg ho hq
        rw [e2, h2] at h1; injection h1 with h1; exact e h1.symm
      rw [if_neg e, if_neg this]; exact look_sgH ho hq hi.2
theorem look_sgH_out {σ : List (Nat × Nat)} {r : Nat} (hr : sgi r σ = none) (ho : sgOk σ = true) : ∀ {h : List (Nat × OB)}, inDH σ h = true → look OB.dead (sgH σ h) r = .dead
  | [], _ => rfl
  | (k, ob) :: h, hi => by
    simp only [inDH, Bool.and_eq_true] at hi
    simp only [sgH, look_cons]
    have : sg σ k ≠ r := fun e => by subst e; rw [sgi_sg ho hi.1.1] at hr; cases hr
    rw [if_neg this]; exact look_sgH_out hr ho hi.2
theorem inDH_look {σ : List (Nat × Nat)} {q : Nat} : ∀ {h : List (Nat × OB)}, inDH σ h = true → (look OB.dead h q).inD σ = true ∧ ((look OB.dead h q).alive = true → domN q σ = true)
  | [], _ => ⟨rfl, fun h => by cases h⟩
  | (k, ob) :: h, hi => by
    simp only [inDH, Bool.and_eq_true] at hi
    rw [look_cons]
    by_cases e : k = q
    · subst e; rw [if_pos rfl]; exact ⟨hi.1.2, fun _ => hi.1.1⟩
    · rw [if_neg e]; exact inDH_look hi.2
theorem sg_alive {σ : List (Nat × Nat)} {ob : OB} : (ob.sg σ).alive = ob.alive := by cases ob <;> rfl
theorem sameH_look {st : AS} {σ : List (Nat × Nat)} {q : Nat} : ∀ {h : List (Nat × OB)}, sameH st σ h → (look OB.dead h q).alive = true → look OB.dead st.heap (sg σ q) = (look OB.dead h q).sg σ
  | [], _, ha => by cases ha
  | (k, ob) :: h, hs, ha => by
    obtain ⟨h1, _, h2⟩ := hs
    rw [look_cons] at ha ⊢
    by_cases e : k = q
    · subst e; rw [if_pos rfl]; exact h1
    · rw [if_neg e] at ha ⊢; exact sameH_look h2 ha
def hasK {α : Type} (r : Nat) : List (Nat × α) → Bool
  | [] => false
  | (k, _) :: l => Nat.beq k r || hasK r l
theorem look_app {α : Type} {d : α} (X : List (Nat × α)) (r : Nat) : ∀ (l : List (Nat × α)), look d (l ++ X) r = if hasK r l = true then look d l r else look d X r
  | [] => by simp [hasK]
  | (k, x) :: l => by
    rw [List.cons_append, look_cons, look_cons]
    by_cases e : k = r
    · subst e; simp [hasK]
    · have hb : Nat.beq k r = false := by
        cases hb : Nat.beq k r
        · rfl
        · exact absurd (Nat.eq_of_beq_eq_true hb) e
      rw [if_neg e, if_neg e, look_app X r l]
      simp only [hasK, hb, Bool.false_or]
theorem hasK_sgH {σ : List (Nat × Nat)} {r : Nat} (hr : sgi r σ = none) (ho : sgOk σ = true) : ∀ {h : List (Nat × OB)}, inDH σ h = true → hasK r (sgH σ h) = false
  | [], _ => rfl
  | (k, ob) :: h, hi => by
    simp only [inDH, Bool.and_eq_true] at hi
    simp only [sgH, hasK, hasK_sgH hr ho hi.2, Bool.or_false]
    cases hb : Nat.beq (sg σ k) r
    · rfl
    · have := Nat.eq_of_beq_eq_true hb; subst this; rw [sgi_sg ho hi.1.1] at hr; cases hr
theorem hasK_deadH {σ : List (Nat × Nat)} {r : Nat} (hr : sgi r σ = none) (ho : sgOk σ = true) : ∀ {h : List (Nat × OB)}, inDH σ h = true → hasK r (deadH σ h) = false
  | [], _ => rfl
  | (k, ob) :: h, hi => by
    simp only [inDH, Bool.and_eq_true] at hi
    simp only [deadH, hasK, hasK_deadH hr ho hi.2, Bool.or_false]
    cases hb : Nat.beq (sg σ k) r
    · rfl
    · have := Nat.eq_of_beq_eq_true hb; subst this; rw [sgi_sg ho hi.1.1] at hr; cases hr
theorem look_deadH {σ : List (Nat × Nat)} {r : Nat} : ∀ {h : List (Nat × OB)}, look OB.dead (deadH σ h) r = .dead
  | [] => rfl
  | (k, ob) :: h => by
    simp only [deadH, look_cons]
    split
    · rfl
    · exact look_deadH
theorem hasK_dead_of {σ : List (Nat × Nat)} {q : Nat} : ∀ {h : List (Nat × OB)}, hasK (sg σ q) (deadH σ h) = false → (look OB.dead h q).alive = false
  | [], _ => rfl
  | (k, ob) :: h, hn => by
    simp only [deadH, hasK, Bool.or_eq_false_iff] at hn
    rw [look_cons]
    by_cases e : k = q
    · subst e; simp at hn
    · rw [if_neg e]; exact hasK_dead_of hn.2
theorem sgi_mem : ∀ {σ : List (Nat × Nat)} {r q : Nat}, sgi r σ = some q → (q, r) ∈ σ
  | [], r, q, h => by cases h
  | (k, x) :: σ, r, q, h => by
    simp only [sgi] at h
    cases hx : Nat.beq x r with
    | true =>
      rw [hx] at h; simp at h; subst h
      have := Nat.eq_of_beq_eq_true hx; subst this; simp
    | false => rw [hx] at h; simp at h; exact List.mem_cons_of_mem _ (sgi_mem h)
/-- What lies under the caller's names behind the call. -/
theorem look_behind {σ : List (Nat × Nat)} (ho : sgOk σ = true) {hin hout H : List (Nat × OB)} (hi : inDH σ hin = true) (hu : inDH σ hout = true) (hcov : ∀ p ∈ σ, (look OB.dead hin p.1).alive = true ∨ (look OB.dead H p.2).alive = false) (r : Nat)
    (ha : (look OB.dead (sgH σ hout ++ (deadH σ hin ++ H)) r).alive = true) :
      (∃ q, domN q σ = true ∧ sg σ q = r ∧ (look OB.dead hout q).alive = true ∧ look OB.dead (sgH σ hout ++ (deadH σ hin ++ H)) r = (look OB.dead hout q).sg σ) ∨
      (sgi r σ = none ∧ look OB.dead (sgH σ hout ++ (deadH σ hin ++ H)) r = look OB.dead H r) := by
  rw [look_app, look_app] at ha ⊢
  cases hr : sgi r σ with
  | none =>
    rw [hasK_sgH hr ho hu, hasK_deadH hr ho hi]
    exact .inr ⟨rfl, by simp⟩
  | some q =>
    obtain ⟨h1, h2⟩ := sgi_some ho hr
    refine .inl ⟨q, h1, h2, ?_⟩
    have hl : look OB.dead (sgH σ hout) r = (look OB.dead hout q).sg σ := by rw [← h2]; exact look_sgH ho h1 hu
    by_cases k1 : hasK r (sgH σ hout) = true
    · rw [if_pos k1] at ha ⊢
      rw [hl] at ha ⊢
      rw [sg_alive] at ha
      exact ⟨ha, rfl⟩
    · rw [if_neg k1] at ha
      by_cases k2 : hasK r (deadH σ hin) = true
      · rw [if_pos k2, look_deadH] at ha; cases ha
      · rw [if_neg k2] at ha
        rcases hcov _ (sgi_mem hr) with h | h
        · have := hasK_dead_of (σ := σ) (q := q) (h := hin) (by rw [h2]; simpa using k2)
          rw [this] at h; cases h
        · rw [h] at ha; cases ha

section
variable {P : Program} {E : Env} {kp : List Nat} {n : Nat} {ops : Array Oper} {st st' : AS}
/-- A name of the contract's that does not come in is free. -/
theorem newOk_mem {hin : List (Nat × OB)} : ∀ {σ : List (Nat × Nat)} {p : Nat × Nat}, newOk st kp hin σ = true → p ∈ σ → (look OB.dead hin p.1).alive = true ∨ st.free kp p.2 = true
  | (q, x) :: σ, p, h, hp => by
    simp only [newOk, Bool.and_eq_true, Bool.or_eq_true] at h
    rcases List.mem_cons.1 hp with e | e
    · subst e; exact h.1
    · exact newOk_mem h.2 e
theorem domN_mem : ∀ {σ : List (Nat × Nat)} {q : Nat}, domN q σ = true → (q, sg σ q) ∈ σ
  | (k, x) :: σ, q, h => by
    unfold sg; rw [look_cons]
    by_cases e : k = q
    · subst e; rw [if_pos rfl]; simp
    · rw [if_neg e]
      simp only [domN, Bool.or_eq_true] at h
      rcases h with h | h
      · exact absurd (Nat.eq_of_beq_eq_true h) e
      · exact List.mem_cons_of_mem _ (domN_mem h)

/-- **A call that is given blocks of its caller's own**; σ: the contract's names, as the caller has them. -/
theorem callX {f : FuncId} {d : Option Tmp} {args : List Operand} {argTypes : Array TypeId} {ty : TypeId} {ps : String} {af : Array Edge} {as : List AV} {hin hout : List (Nat × OB)} {res : AV} (σ : List (Nat × Nat)) (hc : callable P f = true)
    (hev : Ev P f hin as hout res) (hsame : sameH st σ hin) (hchk : (sgOk σ && inDL σ as && inDH σ hin && inDH σ hout && res.inD σ && newOk st kp hin σ) = true) (hcl : (closedH hout hout && res.inH hout) = true)
    (hd : ∀ x, d = some x → Nat.blt x n = true) {a : Act} {w : World} {K : Act → World → Prop} {Q : Exit → Act → World → Prop} {φ : Ghost} {Pub : Nat → Nat → Prop} (I : Inv E kp φ Pub st.heap w) (h0 : a.defers = []) (hn : a.tmps.size = n)
    (hs : ∀ s, RA w Pub φ (look .any st.slots s) (a.tmps.getD s undef)) {x : Operand} {caps : List Value} (hx : a.eval x = .func (.func f) #[] caps.toArray) (hA0 : RAs w Pub φ (sgL σ as) (args.map a.eval ++ caps))
    (hK : ∀ a' w', Sat E kp n ⟨(match d with | some x => (x, res.sg σ) :: st.slots | none => st.slots), sgH σ hout ++ (deadH σ hin ++ st.heap)⟩ a' w' → K a' w') :
    Oper.wp P ⟨d, .call { callee := .value x, args := args.toArray, argTypes }, ty, ps, af, none⟩ a w K Q := by
  simp only [Bool.and_eq_true] at hchk hcl
  obtain ⟨⟨⟨⟨⟨ho, hia⟩, hii⟩, hio⟩, hir⟩, hnew⟩ := hchk
  have hcov : ∀ p ∈ σ, (look OB.dead hin p.1).alive = true ∨ (look OB.dead st.heap p.2).alive = false := fun p hp => (newOk_mem hnew hp).imp id fun h => (free_split h).1
  let φ1 : Ghost := fun q => φ (sg σ q)
  have hinA : ∀ q, (look OB.dead hin q).alive = true → domN q σ = true ∧ look OB.dead st.heap (sg σ q) = (look OB.dead hin q).sg σ ∧ (look OB.dead st.heap (sg σ q)).alive = true := fun q hq => by
    have h1 := sameH_look hsame hq
    exact ⟨(inDH_look hii).2 hq, h1, by rw [h1, sg_alive]; exact hq⟩
  let E1 : Env := ⟨w, fun b => ∃ q c, (look OB.dead hin q).alive = true ∧ φ1 q = some (b, c), Pub, φ1, I.amb, fun t ht ⟨q, c, ha, hb⟩ => own_np (I.own (sg σ q)) (hinA q ha).2.2 hb (I.amb t ht).1⟩
  have I1 : Inv E1 (hin.map (·.1)) φ1 Pub hin w := by
    refine ⟨rfl, rfl, rfl, Nat.le_refl _, fun _ _ _ => rfl, fun q => ?_, fun q b c hq hb => .inr ⟨q, c, hq, hb⟩, fun q q' b c c' hq hq' hb hb' => ?_, fun _ _ h => h, fun _ _ h => .inl h, I.publ, fun _ _ _ => rfl, fun _ _ => rfl⟩
    · cases ha : (look OB.dead hin q).alive with
      | false => cases hz : look OB.dead hin q <;> rw [hz] at ha <;> first | trivial | cases ha
      | true =>
        obtain ⟨h1, h2, h3⟩ := hinA q ha
        have k := I.own (sg σ q)
        rw [h2] at k
        exact (Hp_sg (ψ := φ) (φ := φ1) (fun _ _ => rfl) h1 (inDH_look hii).1).1 k
    · obtain ⟨h1, h2, h3⟩ := hinA q hq
      obtain ⟨h1', h2', h3'⟩ := hinA q' hq'
      have e := I.inj _ _ b c c' h3 h3' hb hb'
      have k1 := sgi_sg ho h1
      rw [e, sgi_sg ho h1'] at k1
      injection k1 with k1; exact k1.symm
  have hA : RAs w Pub φ1 as (args.map a.eval ++ caps) := by
    exact (RAs_sg (ψ := φ) (φ := φ1) (fun _ _ => rfl) as _ hia).1 hA0
  have hcall := hev E1 φ1 Pub w (args.map a.eval ++ caps) rfl rfl I1 hA
  have hrun : (execOp a.eval ⟨d, .call { callee := .value x, args := args.toArray, argTypes }, ty, ps, af, none⟩).run P w = .ok (.enter f (args.map a.eval ++ caps).toArray) w := by
    simp [execOp, resolve, hx, Deferred.ofValue, invoke, run_callFunc hc]
  unfold Oper.wp
  rw [hrun]
  show Calls P f _ w _
  refine hcall.mono ?_
  rintro e w' ⟨v, φ', Pub', rfl, I', hR⟩
  refine hK _ _ ?_
  have H : Adv w Pub w' Pub' := fun b i hp => ⟨I'.pub0 b i hp, I'.same b i hp⟩
  let ψ : Ghost := fun r => match sgi r σ with | some q => φ' q | none => φ r
  have hψ : ∀ q, domN q σ = true → ψ (sg σ q) = φ' q := fun q hq => by show (match sgi (sg σ q) σ with | some q => φ' q | none => _) = _; rw [sgi_sg ho hq]
  have hψo : ∀ r, sgi r σ = none → ψ r = φ r := fun r hr => by show (match sgi r σ with | some q => φ' q | none => _) = _; rw [hr]
  have hkept : ∀ q, (look OB.dead hin q).alive = true → φ' q = φ1 q := fun q hq => I'.kept q (by
    have := look_mem hq
    exact List.mem_map.2 ⟨_, this, rfl⟩)
  -- names that somebody speaks of already
  have hstale : ∀ r, (∀ x, sgi r σ = some x → (look OB.dead hin x).alive = true) → ψ r = φ r := fun r hr => by
    cases hz : sgi r σ with
    | none => exact hψo r hz
    | some q =>
      obtain ⟨h1, h2⟩ := sgi_some ho hz
      rw [← h2, hψ q h1, hkept q (hr q hz)]
  have hspk : ∀ r, (st.free kp r = false) → ψ r = φ r := fun r hr => hstale r fun q hq => by
    rcases newOk_mem hnew (sgi_mem hq) with h | h
    · exact h
    · rw [hr] at h; cases h
  have hsA : ∀ b, E1.A b → b < w.heap.size ∧ (E.w0.heap.size ≤ b ∨ E.A b) := fun b ⟨q, c, hq, hb⟩ => by
    obtain ⟨h1, h2, h3⟩ := hinA q hq
    exact ⟨I.lt h3 hb, I.mine _ b c h3 hb⟩
  have hother : ∀ r b c, sgi r σ = none → (look OB.dead st.heap r).alive = true → φ r = some (b, c) → ¬ E1.A b := fun r b c hr ha hb ⟨q, c', hq, hb'⟩ => by
    obtain ⟨h1, h2, h3⟩ := hinA q hq
    have := I.inj r _ b c c' ha h3 hb hb'
    rw [this, sgi_sg ho h1] at hr; cases hr
  have hbeh := look_behind ho hii hio hcov
  have IN : Inv E kp ψ Pub' (sgH σ hout ++ (deadH σ hin ++ st.heap)) w' := by
    refine I.next I'.os I'.tape I'.output I'.size (fun b hb hA => I'.block b (Nat.lt_of_lt_of_le hb I.size) (fun h => by
        rcases (hsA b h).2 with h | h
        · omega
        · exact hA h)) H (fun b i hp => ?_) I'.publ (fun r hr => ?_) (fun r b c hr hb => ?_) (fun r r' b c c' hr hr' hb hb' => ?_) (fun r hr => ?_)
    · rcases I'.pubs b i hp with h | h | h
      · exact .inl h
      · exact .inr (.inl (Nat.le_trans I.size h))
      · exact .inr (hsA b h).2
    · rcases hbeh r hr with ⟨q, h1, h2, h3, h4⟩ | ⟨h1, h2⟩
      · rw [h4, ← h2]
        exact (Hp_sg (ψ := ψ) (φ := φ') hψ h1 (inDH_look hio).1).2 (I'.own q)
      · rw [h2] at hr ⊢
        refine Hp_keep H (fun b c hb => ⟨I'.block b (I.lt hr hb) (hother r b c h1 hr hb), fun i hp => ?_⟩) (hψo r h1) (fun x hx => hspk x ?_) (I.own r)
        · rcases I'.pubs b i hp with h | h | h
          · exact h
          · exact absurd (I.lt hr hb) (Nat.not_lt.2 h)
          · exact absurd h (hother r b c h1 hr hb)
        · cases hf : st.free kp x with
          | false => rfl
          | true => rw [look_hHas (free_split hf).2.1] at hx; cases hx
    · rcases hbeh r hr with ⟨q, h1, h2, h3, h4⟩ | ⟨h1, h2⟩
      · rw [← h2, hψ q h1] at hb
        rcases I'.mine q b c h3 hb with h | h
        · exact .inl (Nat.le_trans I.size h)
        · exact (hsA b h).2
      · rw [hψo r h1] at hb; rw [h2] at hr; exact I.mine r b c hr hb
    · rcases hbeh r hr with ⟨q, h1, h2, h3, h4⟩ | ⟨h1, h2⟩ <;> rcases hbeh r' hr' with ⟨q', k1, k2, k3, k4⟩ | ⟨k1, k2⟩
      · rw [← h2, hψ q h1] at hb; rw [← k2, hψ q' k1] at hb'
        rw [← h2, ← k2, I'.inj q q' b c c' h3 k3 hb hb']
      · rw [← h2, hψ q h1] at hb; rw [hψo r' k1] at hb'; rw [k2] at hr'
        rcases I'.mine q b c h3 hb with h | h
        · exact absurd (I.lt hr' hb') (Nat.not_lt.2 h)
        · exact absurd h (hother r' b c' k1 hr' hb')
      · rw [hψo r h1] at hb; rw [← k2, hψ q' k1] at hb'; rw [h2] at hr
        rcases I'.mine q' b c' k3 hb' with h | h
        · exact absurd (I.lt hr hb) (Nat.not_lt.2 h)
        · exact absurd h (hother r b c h1 hr hb)
      · rw [hψo r h1] at hb; rw [hψo r' k1] at hb'; rw [h2] at hr; rw [k2] at hr'; exact I.inj r r' b c c' hr hr' hb hb'
    · refine hspk r ?_
      cases hf : st.free kp r with
      | false => rfl
      | true => exact absurd hr (free_split hf).2.2.2
  have hR' : RA w' Pub' ψ (res.sg σ) v := (RA_sg (ψ := ψ) (φ := φ') hψ res v hir).2 hR
  have hS : ∀ s, RA w' Pub' ψ (look .any st.slots s) (a.tmps.getD s undef) := fun s => RA_mono H _ _ (fun x hx => hspk x (by
      cases hf : st.free kp x with
      | false => rfl
      | true => rw [look_sHas (free_split hf).2.2.1] at hx; cases hx)) (hs s)
  cases d with
  | none => exact ⟨ψ, Pub', IN, h0, hn, hS⟩
  | some x => exact Sat.put IN h0 hn hS (hd x rfl) hR'

theorem S_callH {f : FuncId} {d : Option Tmp} {args : List Operand} {argTypes : Array TypeId} {ty : TypeId} {ps : String} {af : Array Edge} {as : List AV} {hin hout : List (Nat × OB)} {res : AV} (σ : List (Nat × Nat)) (hc : callable P f = true)
    (hev : Ev P f hin as hout res) (hargs : AllGv (args.map st.ev) (sgL σ as)) (hsame : sameH st σ hin) (hchk : (sgOk σ && inDL σ as && inDH σ hin && inDH σ hout && res.inD σ && newOk st kp hin σ) = true) (hcl : (closedH hout hout && res.inH hout) = true)
    (hd : ∀ x, d = some x → Nat.blt x n = true) :
    Step P E kp n ops ⟨d, .call { callee := .value (.func f), args := args.toArray, argTypes }, ty, ps, af, none⟩ st ⟨(match d with | some x => (x, res.sg σ) :: st.slots | none => st.slots), sgH σ hout ++ (deadH σ hin ++ st.heap)⟩ := by
  intro a w K Q ⟨φ, Pub, I, h0, hn, hs⟩ hK
  rw [if_pos (by rfl)]
  exact callX σ hc hev hsame hchk hcl hd I h0 hn hs (x := .func f) (caps := []) rfl (by rw [List.append_nil]; exact hargs.R (evs_R (st := st) hs args)) (fun a' w' h => hK a' w' (by cases d <;> exact h))

theorem mem_sgH {σ : List (Nat × Nat)} {q : Nat} {x : OB} : ∀ {h : List (Nat × OB)}, (q, x) ∈ h → (sg σ q, x.sg σ) ∈ sgH σ h
  | (k, ob) :: h, hm => by
    rcases List.mem_cons.1 hm with e | e
    · cases e; simp [sgH]
    · simp only [sgH]; exact List.mem_cons_of_mem _ (mem_sgH e)
theorem newOk_of {hin hout : List (Nat × OB)} {τ : List (Nat × Nat)} (hf : freeAll st kp (sgH τ hout) = true) : ∀ {σ : List (Nat × Nat)}, (∀ p ∈ σ, sg τ p.1 = p.2) → (σ.all fun p => (look OB.dead hout p.1).alive) = true → newOk st kp hin σ = true
  | [], _, _ => rfl
  | (q, x) :: σ, hs, hc => by
    simp only [List.all_cons, Bool.and_eq_true] at hc
    simp only [newOk, Bool.and_eq_true, Bool.or_eq_true]
    refine ⟨.inr ?_, newOk_of hf (fun p hp => hs p (List.mem_cons_of_mem _ hp)) hc.2⟩
    have := freeAll_mem hf (mem_sgH (look_mem hc.1))
    have e := hs (q, x) (by simp)
    simp only at e this
    rw [← e]; exact this
theorem sg_self : ∀ {σ : List (Nat × Nat)}, sgOk σ = true → ∀ p ∈ σ, sg σ p.1 = p.2
  | (k, x) :: σ, ho, p, hp => by
    simp only [sgOk, Bool.and_eq_true, Bool.not_eq_true'] at ho
    unfold sg; rw [look_cons]
    rcases List.mem_cons.1 hp with e | e
    · subst e; rw [if_pos rfl]
    · have hne : k ≠ p.1 := fun e2 => by
        have : domN p.1 σ = true := by
          clear ho hp
          induction σ with
          | nil => cases e
          | cons q σ ih =>
            rcases List.mem_cons.1 e with e | e
            · subst e; simp [domN]
            · simp [domN, ih e]
        rw [← e2, ho.1.1] at this; cases this
      rw [if_neg hne]; exact sg_self ho.2 p e
/-- **A call** on shared values that makes blocks for its caller alone. -/
theorem S_callN {f : FuncId} {d : Option Tmp} {args : List Operand} {argTypes : Array TypeId} {ty : TypeId} {ps : String} {af : Array Edge} {as : List AV} {hout : List (Nat × OB)} {res : AV} (σ : List (Nat × Nat)) (hc : callable P f = true)
    (hev : Ev P f [] as hout res) (hargs : AllGv (args.map st.ev) (sgL σ as)) (hchk : (sgOk σ && inDL σ as && inDH σ hout && res.inD σ && (σ.all fun p => (look OB.dead hout p.1).alive)) = true) (hcl : (closedH hout hout && res.inH hout) = true)
    (hf : freeAll st kp (sgH σ hout) = true) (hd : ∀ x, d = some x → Nat.blt x n = true) :
    Step P E kp n ops ⟨d, .call { callee := .value (.func f), args := args.toArray, argTypes }, ty, ps, af, none⟩ st ⟨(match d with | some x => (x, res.sg σ) :: st.slots | none => st.slots), sgH σ hout ++ st.heap⟩ := by
  simp only [Bool.and_eq_true] at hchk
  obtain ⟨⟨⟨⟨h1, h2⟩, h3⟩, h4⟩, h5⟩ := hchk
  exact S_callH σ hc hev hargs trivial (by
    simp only [Bool.and_eq_true]
    exact ⟨⟨⟨⟨⟨h1, h2⟩, rfl⟩, h3⟩, h4⟩, newOk_of hf (sg_self h1) h5⟩) hcl hd
end
theorem nn_agg (l : List PV) : (PV.agg l).nn = .agg (PV.nnL l) := rfl
theorem nn_int (k : IntKind) (n : Int) : (PV.v (.int k n)).nn = .v (.int k n) := rfl
theorem nn_bool (b : Bool) : (PV.v (.bool b)).nn = .v (.bool b) := rfl
theorem nn_sl (l : List PV) (n : Nat) : (PV.sl l n).nn = .sl l n := rfl
theorem nn1_int (k : IntKind) (n : Int) : (PV.v (.int k n)).nn1 = .v (.int k n) := rfl
theorem nn1_bool (b : Bool) : (PV.v (.bool b)).nn1 = .v (.bool b) := rfl
theorem nn1_str (l : List UInt8) : (strP l).nn1 = strP l := rfl
theorem nn_str (l : List UInt8) : (strP l).nn = strP l := rfl
theorem nn1_bytes (l : List UInt8) : (bytesP l).nn1 = bytesP l := rfl
theorem nn_bytes (l : List UInt8) : (bytesP l).nn = bytesP l := rfl
theorem nn1_nil : (PV.v (.slice none 0 0)).nn1 = .sl [] 0 := rfl
theorem nn1_sl (l : List PV) (n : Nat) : (PV.sl l n).nn1 = .sl l n := rfl
theorem nn1_agg (l : List PV) : (PV.agg l).nn1 = .agg l := rfl
theorem nnL_nil : PV.nnL [] = [] := rfl
theorem nnL_cons (x : PV) (l : List PV) : PV.nnL (x :: l) = x.nn1 :: PV.nnL l := rfl
end Go.Proofs.YtcebndkiagbddaaDoor

/- 'copy' into a row of the call's own; negation; a division by a number that is not 0; what a contract over values without addresses says of a call from anywhere. They name no function of the program. -/
namespace Go.Proofs.YtcebndkiagbddaaDoor
open Go.RowKit
set_option linter.unusedVariables false
set_option linter.unusedSimpArgs false

section
variable {P : Program} {E : Env} {kp : List Nat} {n : Nat} {ops : Array Oper} {st : AS} {d : Nat} {ty : TypeId} {ps : String} {af : Array Edge}
theorem run_copy_own {dT sT e : TypeId} (hu : P.underlying dT = some (.slice e)) (hs : szOf P e = some 1) {b m c k : Nat} {u : Value} {w : World} {cur : Array Value} {t : TypeId} {fr : Nat × Nat} (hb : w.heap[b]? = some (.cells cur t fr)) (hfr : FrOk t cur.size fr)
    (hk : (Builtin.lenOf u).run P w = .ok k w) {vs : List Value} (hf : (Builtin.firstCells 1 (Nat.min k m) u).run P w = .ok vs.toArray w) (hl : vs.length = Nat.min k m) (hin : vs.length ≤ cur.size) (h1 : ∀ v ∈ vs, v.oneCell' = true) :
    (Builtin.copy_ #[dT, sT] ty #[.slice (some ⟨b, 0, none⟩) m c, u]).run P w = .ok (goInt vs.length) (w.setCells b 0 vs) := by
  have hst := run_storeCells_cells (P := P) b 0 vs 0 w (fun j hj => by
    rw [cell_of_row w b _ cur t fr hb, Array.getElem?_eq_getElem (by omega)]; rfl) (fun j hj => by
    unfold World.frozen?; simp only [hb]
    rcases hfr with h0 | h0
    · subst h0; simp
    · have := h0.1; simp; omega) h1
  simp only [Nat.add_zero] at hst
  simp [Builtin.copy_, run_underlying hu, hk, run_sizeOf hs, hf, hst, hl]

theorem S_copyStr {T T2 e : TypeId} {x y : Operand} {r m sz pub : Nat} {cells : List PV} {l : List UInt8} (hx : Gv (st.ev x) (.osl r m)) (hl : st.ob r = .row cells e sz pub) (hy : Gv (st.ev y) (.p (strP l))) (hT : slOf P T = some (e, 1)) (hm : m ≤ cells.length) (hm0 : 0 < m) (hp : pub = 0) (hd : Nat.blt d n = true) :
    Step P E kp n ops ⟨some d, .call { callee := .builtin .copy, args := #[x, y], argTypes := #[T, T2] }, ty, ps, af, none⟩ st ((st.set r (.row (putL cells 0 ((l.take m).map b8P)) e sz pub)).put d (.p (i64P (Nat.min l.length m : Nat)))) := by
  refine Step.val rfl fun a w ⟨φ, Pub, I, h0, hn, hsl⟩ => ?_
  subst hp
  have h := hx _ _ _ _ (ev_R (h := st.heap) hsl x)
  have e1 := hy.v (ev_R (h := st.heap) hsl y)
  obtain ⟨t1, t2⟩ := sl_of hT
  have hmin : (l.take m).length = Nat.min l.length m := by rw [List.length_take]; exact Nat.min_comm _ _
  have hR := b8_RPs (w := w) (Pub := Pub) (l.take m)
  have h1 : ∀ u ∈ (l.take m).map (fun c => Value.int .u8 (c.toNat : Int)), u.oneCell' = true := by
    intro u hu; rw [List.mem_map] at hu; obtain ⟨c, _, rfl⟩ := hu; rfl
  have k := I.own r
  have hl' : look OB.dead st.heap r = .row cells e sz 0 := hl
  rw [hl'] at k
  have hlen : (Builtin.lenOf (.string ⟨l.toArray⟩)).run P w = .ok l.length w := rfl
  have hfc : (Builtin.firstCells 1 (Nat.min l.length m) (.string ⟨l.toArray⟩)).run P w = .ok ((l.take m).map fun c => Value.int .u8 (c.toNat : Int)).toArray w := by
    simp [Builtin.firstCells]
    exact Nat.min_comm _ _
  unfold RA at h
  rcases h with ⟨b, c, e2, e3, e4⟩ | ⟨e2, rfl, e3⟩
  · rcases k with ⟨k0, _⟩ | ⟨b', c', cur, fr, k1, ⟨k2, k2'⟩, k3, k4, k5, k6, k7, k8⟩
    · rw [e2] at k0; cases k0
    rw [e2] at k1; cases k1
    have hlv : ((l.take m).map fun c => Value.int .u8 (c.toNat : Int)).length = Nat.min l.length m := by rw [List.length_map]; exact hmin
    have hmm : Nat.min l.length m ≤ m := Nat.min_le_right _ _
    obtain ⟨I', H⟩ := I.storeRow (o := 0) hl' e2 hR h1 (Nat.zero_le _) (by rw [List.length_map, hmin]; omega)
    refine ⟨_, _, ?_, Sat.put (u := goInt (Nat.min l.length m)) I' h0 hn (fun q => RA_mono H _ _ (fun _ _ => rfl) (hsl q)) hd (by unfold RA RP; rfl)⟩
    have hr := run_copy_own (P := P) (sT := T2) (ty := ty) (c := c) t1 t2 k2 k2' hlen hfc hlv (by rw [hlv]; omega) h1
    simp only [execOp, resolve, invoke, builtin, Sem.run_bind, Sem.run_pure, Result.andThen_ok, List.map_toArray, List.map_cons, List.map_nil, e1, e3, hr, hlv]
  · omega
theorem S_copyBs {T T2 e : TypeId} {x y : Operand} {r m sz pub : Nat} {cells : List PV} {l : List UInt8} (hx : Gv (st.ev x) (.osl r m)) (hl : st.ob r = .row cells e sz pub) (hy : Gv (st.ev y) (.p (bytesP l))) (hT : slOf P T = some (e, 1)) (hm : m ≤ cells.length) (hm0 : 0 < m) (hp : pub = 0) (hd : Nat.blt d n = true) :
    Step P E kp n ops ⟨some d, .call { callee := .builtin .copy, args := #[x, y], argTypes := #[T, T2] }, ty, ps, af, none⟩ st ((st.set r (.row (putL cells 0 ((l.take m).map b8P)) e sz pub)).put d (.p (i64P (Nat.min l.length m : Nat)))) := by
  refine Step.val rfl fun a w ⟨φ, Pub, I, h0, hn, hsl⟩ => ?_
  subst hp
  have h := hx _ _ _ _ (ev_R (h := st.heap) hsl x)
  have hu := hy.p_ (ev_R (h := st.heap) hsl y)
  unfold bytesP RP at hu
  obtain ⟨ad, c0, e1, _, _, ha0, hu⟩ := hu
  obtain ⟨t1, t2⟩ := sl_of hT
  have hmin : (l.take m).length = Nat.min l.length m := by rw [List.length_take]; exact Nat.min_comm _ _
  have hR := b8_RPs (w := w) (Pub := Pub) (l.take m)
  have h1 : ∀ u ∈ (l.take m).map (fun c => Value.int .u8 (c.toNat : Int)), u.oneCell' = true := by
    intro u hu; rw [List.mem_map] at hu; obtain ⟨c, _, rfl⟩ := hu; rfl
  have k := I.own r
  have hl' : look OB.dead st.heap r = .row cells e sz 0 := hl
  rw [hl'] at k
  have hlen : (Builtin.lenOf (.slice ad l.length c0)).run P w = .ok l.length w := rfl
  have hml : ((l.take m).map fun c => Value.int .u8 (c.toNat : Int)).length = Nat.min l.length m * 1 := by rw [List.length_map, hmin, Nat.mul_one]
  have hfc : (Builtin.firstCells 1 (Nat.min l.length m) (.slice ad l.length c0)).run P w = .ok ((l.take m).map fun c => Value.int .u8 (c.toNat : Int)).toArray w := by
    cases ad with
    | none =>
      have hl0 : l = [] := by
        have := ha0 rfl
        exact List.eq_nil_of_length_eq_zero (by omega)
      subst hl0
      simp [Builtin.firstCells]
    | some ad =>
      refine run_firstCells_some w 1 _ ad _ _ _ hml fun j v hj => ?_
      rcases hu with h0 | ⟨b, o, e5, hc⟩
      · have hl0 : l = [] := List.eq_nil_of_length_eq_zero h0
        subst hl0; simp at hj
      · cases e5
        rw [List.getElem?_map, List.getElem?_take] at hj
        split at hj
        · cases hg : l[j]? with
          | none => rw [hg] at hj; cases hj
          | some q =>
            rw [hg] at hj
            obtain ⟨u, k1, _, _, k4⟩ := RPc_get hc (i := j) (x := b8P q) (by rw [List.getElem?_map, hg]; rfl)
            unfold b8P RP at k4
            cases hj; rw [k4] at k1
            rw [Addr.add_mid]; exact k1
        · cases hj
  unfold RA at h
  rcases h with ⟨b, c, e2, e3, e4⟩ | ⟨e2, rfl, e3⟩
  · rcases k with ⟨k0, _⟩ | ⟨b', c', cur, fr, k1, ⟨k2, k2'⟩, k3, k4, k5, k6, k7, k8⟩
    · rw [e2] at k0; cases k0
    rw [e2] at k1; cases k1
    have hlv : ((l.take m).map fun c => Value.int .u8 (c.toNat : Int)).length = Nat.min l.length m := by rw [List.length_map]; exact hmin
    have hmm : Nat.min l.length m ≤ m := Nat.min_le_right _ _
    obtain ⟨I', H⟩ := I.storeRow (o := 0) hl' e2 hR h1 (Nat.zero_le _) (by rw [List.length_map, hmin]; omega)
    refine ⟨_, _, ?_, Sat.put (u := goInt (Nat.min l.length m)) I' h0 hn (fun q => RA_mono H _ _ (fun _ _ => rfl) (hsl q)) hd (by unfold RA RP; rfl)⟩
    have hr := run_copy_own (P := P) (sT := T2) (ty := ty) (c := c) t1 t2 k2 k2' hlen hfc hlv (by rw [hlv]; omega) h1
    simp only [execOp, resolve, invoke, builtin, Sem.run_bind, Sem.run_pure, Result.andThen_ok, List.map_toArray, List.map_cons, List.map_nil, e1, e3, hr, hlv]
  · omega
theorem S_neg {x : Operand} {T : TypeId} {k : IntKind} {i r : Int} (hx : Gv (st.ev x) (.p (.v (.int k i)))) (hr : k.wrap (-i) = r) (hd : Nat.blt d n = true) :
    Step P E kp n ops ⟨some d, .unOp .neg T x, ty, ps, af, none⟩ st (st.put d (.p (.v (.int k r)))) :=
  S_pure _ rfl rfl hd fun a w φ Pub I hs => by
    have e1 := hx.v (hs x)
    exact ⟨.int k r, by simp [execOp, e1, Op.unary, Op.intArith, hr], by simp [RA, RP]⟩
theorem S_max8 {T1 T2 : TypeId} {x y : Operand} {i j : UInt8} (hx : Gv (st.ev x) (.p (b8P i))) (hy : Gv (st.ev y) (.p (.v (.int .u8 (j.toNat : Int))))) (hd : Nat.blt d n = true) (hty : P.underlying ty = some (.int .u8)) :
    Step P E kp n ops ⟨some d, .call { callee := .builtin .max, args := #[x, y], argTypes := #[T1, T2] }, ty, ps, af, none⟩ st (st.put d (.p (b8P (if i < j then j else i)))) :=
  S_call_pure _ hd fun a w φ Pub I hR => by
    have e1 := hx.v (hR x)
    have e2 := hy.v (hR y)
    refine ⟨.int .u8 ((if i < j then j else i).toNat : Int), ?_, by simp [RA, RP]⟩
    have e : ((if i < j then j else i).toNat : Int) = if (i.toNat : Int) < (j.toNat : Int) then (j.toNat : Int) else (i.toNat : Int) := by
      by_cases h : i < j
      · rw [if_pos h, if_pos (by have := UInt8.lt_iff_toNat_lt.1 h; omega)]
      · rw [if_neg h, if_neg (by intro h2; exact h (UInt8.lt_iff_toNat_lt.2 (by omega)))]
    rw [e]
    simp only [builtin, List.map_toArray, List.map_cons, List.map_nil, e1, e2]
    rfl
end
theorem bv8 (b : UInt8) : BitVec.ofInt 8 (b.toNat : Int) = b.toBitVec := by
  apply BitVec.eq_of_toNat_eq
  have := b.toNat_lt
  rw [BitVec.toNat_ofInt]; simp; omega
theorem u8xor (b c : UInt8) : IntKind.u8.wrap ((BitVec.ofInt IntKind.u8.bits (b.toNat : Int) ^^^ BitVec.ofInt IntKind.u8.bits (c.toNat : Int)).toNat : Int) = ((b ^^^ c).toNat : Int) := by
  show IntKind.u8.wrap ((BitVec.ofInt 8 (b.toNat : Int) ^^^ BitVec.ofInt 8 (c.toNat : Int)).toNat : Int) = _
  rw [bv8, bv8, ← UInt8.toBitVec_xor, u8w]
  have e : (b ^^^ c).toBitVec.toNat = (b ^^^ c).toNat := rfl
  rw [e, u8of_id]
theorem u8or (b c : UInt8) : IntKind.u8.wrap ((BitVec.ofInt IntKind.u8.bits (b.toNat : Int) ||| BitVec.ofInt IntKind.u8.bits (c.toNat : Int)).toNat : Int) = ((b ||| c).toNat : Int) := by
  show IntKind.u8.wrap ((BitVec.ofInt 8 (b.toNat : Int) ||| BitVec.ofInt 8 (c.toNat : Int)).toNat : Int) = _
  rw [bv8, bv8, ← UInt8.toBitVec_or, u8w]
  have e : (b ||| c).toBitVec.toNat = (b ||| c).toNat := rfl
  rw [e, u8of_id]
theorem u8and (b c : UInt8) : IntKind.u8.wrap ((BitVec.ofInt IntKind.u8.bits (b.toNat : Int) &&& BitVec.ofInt IntKind.u8.bits (c.toNat : Int)).toNat : Int) = ((b &&& c).toNat : Int) := by
  show IntKind.u8.wrap ((BitVec.ofInt 8 (b.toNat : Int) &&& BitVec.ofInt 8 (c.toNat : Int)).toNat : Int) = _
  rw [bv8, bv8, ← UInt8.toBitVec_and, u8w]
  have e : (b &&& c).toBitVec.toNat = (b &&& c).toNat := rfl
  rw [e, u8of_id]
theorem putL_map (l : List UInt8) (i : Nat) (x : UInt8) : putL (l.map b8P) i [b8P x] = (l.set i x).map b8P := by
  show (l.map b8P).set i (b8P x) = _
  rw [List.map_set]
theorem putL_copy {α : Type} (xs l : List α) (h : xs.length ≤ l.length) : putL l 0 xs = xs ++ l.drop xs.length := by
  have h2 := putL_app xs 0 l (by omega)
  apply List.ext_getElem?
  intro i
  rcases Nat.lt_or_ge i xs.length with hi | hi
  · have := congrArg (fun q => q[i]?) h2
    simp only [Nat.zero_add, List.take_zero, List.nil_append] at this
    rw [List.getElem?_take, if_pos hi] at this
    rw [this, List.getElem?_append_left hi]
  · rw [List.getElem?_append_right hi, List.getElem?_drop, show xs.length + (i - xs.length) = i from by omega]
    have : ∀ (xs : List α) (o : Nat) (l : List α) (i : Nat), o + xs.length ≤ i → (putL l o xs)[i]? = l[i]? := by
      intro xs
      induction xs with
      | nil => intro o l i _; rfl
      | cons x xs ih =>
        intro o l i hi
        show (putL (l.set o x) (o + 1) xs)[i]? = _
        rw [ih (o + 1) _ i (by simp at hi; omega), List.getElem?_set_ne (by simp at hi; omega)]
    exact this xs 0 l i (by omega)

/-! ### From a contract to a call from anywhere -/
theorem Ev.calls {P : Program} {f : FuncId} {args : List AV} {b : Bool} (h : Ev P f [] args [] (.p (.v (.bool b)))) {w : World} {vs : List Value} (Pub : Nat → Nat → Prop) (hA : Amb w Pub) (hp : ∀ b i, Pub b i → b < w.heap.size) (hR : RAs w Pub (fun _ => none) args vs) :
    Calls P f vs.toArray w fun e w' => e = .returned (.bool b) ∧ Below w.heap.size w w' := by
  refine (h ⟨w, fun _ => False, Pub, fun _ => none, hA, fun _ _ h => h⟩ (fun _ => none) Pub w vs rfl rfl ⟨rfl, rfl, rfl, Nat.le_refl _, fun _ _ _ => rfl, fun r => ?_, fun r b c h1 => ?_, fun r r' b c c' h1 => ?_, fun _ _ k => k, fun _ _ k => .inl k, hp, fun _ _ _ => rfl, fun _ hr => ?_⟩ hR).mono fun e w' k => ?_
  · unfold Hp; simp [look]
  · simp [look, OB.alive] at h1
  · simp [look, OB.alive] at h1
  · rfl
  · obtain ⟨v, φ', Pub', rfl, I, k2⟩ := k
    unfold RA RP at k2
    subst k2
    exact ⟨rfl, I.os, I.tape, I.output, I.size, fun q hq => I.block q hq (fun x => x)⟩
abbrev rawP (kind a b : Int) (s : List UInt8) : PV := .agg [i64P kind, i64P a, i64P b, strP s]
theorem rawP_R {w : World} {Pub : Nat → Nat → Prop} (k a b : Int) (s : ByteArray) : RP w Pub (rawP k a b s.data.toList) (.agg #[.int .i64 k, .int .i64 a, .int .i64 b, .string s]) := by
  unfold RP
  exact ⟨[.int .i64 k, .int .i64 a, .int .i64 b, .string s], rfl, by unfold RPs; exact ⟨_, _, rfl, by unfold RP; rfl, by unfold RPs; exact ⟨_, _, rfl, by unfold RP; rfl, by unfold RPs; exact ⟨_, _, rfl, by unfold RP; rfl, by unfold RPs; exact ⟨_, _, rfl, by unfold RP; rfl, by unfold RPs; rfl⟩⟩⟩⟩⟩
theorem RAs_one {w : World} {Pub : Nat → Nat → Prop} {φ : Ghost} {x : PV} {u : Value} {xs : List AV} {us : List Value} (h : RP w Pub x u) (k : RAs w Pub φ xs us) : RAs w Pub φ (.p x :: xs) (u :: us) := by
  unfold RAs; exact ⟨u, us, rfl, by unfold RA; exact h, k⟩
theorem RAs_nil {w : World} {Pub : Nat → Nat → Prop} {φ : Ghost} : RAs w Pub φ [] [] := by unfold RAs; rfl
end Go.Proofs.YtcebndkiagbddaaDoor

/- A region that draws its order, with one late operation: it may come early, or beside the stores. It names no function of the program. -/
namespace Go.Proofs.YtcebndkiagbddaaDoor
open Go.RowKit
set_option linter.unusedVariables false
set_option linter.unusedSimpArgs false

/-- The first l + 1 operations hang on earlier ones alone; each one behind them comes behind the first l. -/
def floatL (ops : Array Oper) (l : Nat) : Bool :=
  (List.range (l + 1)).all (fun i => ((ops[i]?).map fun o => o.after.all fun e => !Region.binds .any e || decide (e.on < i)).getD false) &&
  (List.range ops.size).all (fun i => decide (i < l + 1) || (List.range l).all fun j => (closeN ops l (depsOf ops i)).contains j)
section
variable {P : Program} {ops : Array Oper} {Q : Exit → Act → World → Prop}
theorem wpAny_late {l m : Nat} (hlm : l + 1 = m) (hf : floatL ops l = true) (hm : m ≤ ops.size) (Inv : (Nat → Bool) → Act → World → Prop)
    (step : ∀ (L : Nat → Bool) a w i o (K : Act → World → Prop), i < m → ops[i]? = some o → L i = false → (o.after.all fun e => !Region.binds .any e || L e.on) = true → Inv L a w →
      (∀ a w, Inv (fun j => j == i || L j) a w → K a w) → if Region.wanted o (yielded ops a.tmps) = true then Oper.wp P o a w K Q else K (a.put o.dst undef) w)
    (fin : ∀ L a w, (∀ i, i < l → L i = true) → Inv L a w → (L l = true → wpAny P .any ops Q (ops.size - m) (firstM ops.size m) a w) ∧ (L l = false → wpAny P .any ops Q (ops.size - m + 1) (firstM ops.size l) a w)) :
    ∀ (f : Nat) (L : Array Bool) (a : Act) (w : World), L.size = ops.size → (∀ i, m ≤ i → i < ops.size → L.getD i true = false) → (∀ i, L.getD i false = true → ∀ j ∈ depsOf ops i, L.getD j false = true) → unlisted L m = f → Inv (fun i => L.getD i true) a w →
      wpAny P .any ops Q (f + (ops.size - m)) L a w := by
  unfold floatL at hf
  rw [hlm] at hf
  simp only [Bool.and_eq_true, List.all_eq_true, List.mem_range] at hf
  obtain ⟨hlow, hhigh⟩ := hf
  intro f
  induction f with
  | zero =>
    intro L a w hs hh hdc hu hI
    have hall : ∀ i, i < m → L.getD i true = true := by
      intro i hi
      have h0 : (List.range m).filter (fun i => !L.getD i true) = [] := List.length_eq_zero_iff.1 hu
      rw [List.filter_eq_nil_iff] at h0
      simpa using h0 i (List.mem_range.2 hi)
    have hL : L = firstM ops.size m := by
      apply Array.ext
      · simp [firstM, hs]
      · intro i h1 h2
        have hi : i < ops.size := by omega
        simp only [firstM, Array.getElem_map, Array.getElem_range]
        by_cases h : i < m
        · have := hall i h; rw [Array.getD_eq_getD_getElem?, Array.getElem?_eq_getElem h1] at this; simpa [h] using this
        · have := hh i (by omega) hi; rw [Array.getD_eq_getD_getElem?, Array.getElem?_eq_getElem h1] at this; simpa [h] using this
    rw [Nat.zero_add, hL]
    exact (fin _ a w (fun i hi => hall i (by omega)) hI).1 (hall l (by omega))
  | succ f ih =>
    intro L a w hs hh hdc hu hI
    rw [show f + 1 + (ops.size - m) = (f + (ops.size - m)) + 1 from by omega]
    by_cases hex : ∃ i, i < l ∧ L.getD i true = false
    case neg =>
      have hall : ∀ i, i < l → L.getD i true = true := fun i hi => by
        cases h : L.getD i true with
        | true => rfl
        | false => exact absurd ⟨i, hi, h⟩ hex
      have h0 : (List.range l).filter (fun i => !L.getD i true) = [] := by
        rw [List.filter_eq_nil_iff]; intro i hi; rw [hall i (List.mem_range.1 hi)]; simp
      unfold unlisted at hu
      rw [← hlm, List.range_succ, List.filter_append, h0, List.nil_append] at hu
      cases hl : L.getD l true with
      | true => rw [List.filter_cons, hl] at hu; simp at hu
      | false =>
        rw [List.filter_cons, hl] at hu
        simp at hu
        have hL : L = firstM ops.size l := by
          apply Array.ext
          · simp [firstM, hs]
          · intro i h1 h2
            have hi : i < ops.size := by omega
            simp only [firstM, Array.getElem_map, Array.getElem_range]
            by_cases h : i < l
            · have := hall i h; rw [Array.getD_eq_getD_getElem?, Array.getElem?_eq_getElem h1] at this; simpa [h] using this
            · by_cases h3 : i = l
              · subst h3; rw [Array.getD_eq_getD_getElem?, Array.getElem?_eq_getElem h1] at hl; simpa using hl
              · have := hh i (by omega) hi; rw [Array.getD_eq_getD_getElem?, Array.getElem?_eq_getElem h1] at this; simpa [h] using this
        subst hu
        have hfin := (fin _ a w hall hI).2 hl
        rw [hL, Nat.zero_add]; exact hfin
    case pos =>
      have hready : Region.ready .any ops L ≠ [] := by
        -- the least one
        have hmin : ∀ n i, i ≤ n → i < l → L.getD i true = false → ∃ k, k < l ∧ L.getD k true = false ∧ ∀ j, j < k → L.getD j true = true := by
          intro n
          induction n with
          | zero => intro i h0 h1 h2; exact ⟨i, h1, h2, fun j hj => by omega⟩
          | succ n ihn =>
            intro i h0 h1 h2
            by_cases hq : ∃ j, j < i ∧ L.getD j true = false
            · obtain ⟨j, hj, hj2⟩ := hq; exact ihn j (by omega) (by omega) hj2
            · refine ⟨i, h1, h2, fun j hj => ?_⟩
              cases h : L.getD j true with
              | true => rfl
              | false => exact absurd ⟨j, hj, h⟩ hq
        obtain ⟨i, hi, hi2⟩ := hex
        obtain ⟨k, hk, hk2, hk3⟩ := hmin i i (Nat.le_refl _) hi hi2
        have : k ∈ Region.ready .any ops L := by
          unfold Region.ready
          rw [List.mem_filter]
          refine ⟨List.mem_range.2 (by omega), ?_⟩
          rw [hk2]
          have h1 := hlow k (by omega)
          cases ho : ops[k]? with
          | none => rw [ho] at h1; simp at h1
          | some o =>
            rw [ho] at h1
            simp only [Option.map_some, Option.getD_some, Bool.not_false, Bool.true_and, Array.all_eq_true] at h1 ⊢
            intro e he
            have h2 := h1 e he
            simp only [Bool.or_eq_true, Bool.not_eq_true', decide_eq_true_eq] at h2 ⊢
            rcases h2 with h2 | h2
            · exact .inl h2
            · refine .inr ?_
              have h3 := hk3 _ h2
              have h4 : (o.after[e]).on < L.size := by omega
              rw [Array.getD_eq_getD_getElem?, Array.getElem?_eq_getElem h4] at h3 ⊢
              simpa using h3
        intro h; rw [h] at this; cases this
      refine ⟨fun h => absurd h hready, fun i hi => ?_⟩
      unfold Region.ready at hi
      rw [List.mem_filter] at hi
      obtain ⟨hi1, hi2⟩ := hi
      have hi1 := List.mem_range.1 hi1
      simp only [Bool.and_eq_true, Bool.not_eq_true'] at hi2
      obtain ⟨hi2, hi3⟩ := hi2
      have hready2 : ∀ j ∈ depsOf ops i, L.getD j false = true := by
        unfold depsOf
        cases ho : ops[i]? with
        | none => simp
        | some o =>
          rw [ho] at hi3
          simp only [Option.map_some, Option.getD_some, Array.all_eq_true, Bool.or_eq_true, Bool.not_eq_true'] at hi3 ⊢
          intro j hj
          rw [List.mem_map] at hj
          obtain ⟨e, he, rfl⟩ := hj
          rw [List.mem_filter] at he
          obtain ⟨x, hx, hx2⟩ := Array.mem_iff_getElem.1 (Array.mem_def.2 he.1)
          rcases hi3 x hx with h2 | h2
          · rw [hx2, he.2] at h2; cases h2
          · rw [hx2] at h2; exact h2
      have him : i < m := by
        refine Classical.byContradiction fun hn => ?_
        obtain ⟨k, hk, hk2⟩ := hex
        have h1 := hhigh i hi1
        simp only [Bool.or_eq_true, decide_eq_true_eq, hn, false_or, List.all_eq_true, List.mem_range] at h1
        have h2 := closeN_listed hdc l (depsOf ops i) hready2 k (List.contains_iff_mem.1 (h1 k hk))
        have h4 : k < L.size := by omega
        rw [Array.getD_eq_getD_getElem?, Array.getElem?_eq_getElem h4] at h2 hk2
        simp at h2 hk2; rw [h2] at hk2; cases hk2
      cases ho : ops[i]? with
      | none => rw [ho] at hi3; simp at hi3
      | some o =>
        refine wpOp_step ho fun K' hK' => ?_
        rw [ho] at hi3
        have hd : (o.after.all fun e => !Region.binds .any e || L.getD e.on true) = true := by
          simp only [Option.map_some, Option.getD_some, Array.all_eq_true, Bool.or_eq_true, Bool.not_eq_true'] at hi3 ⊢
          intro e he
          rcases hi3 e he with h2 | h2
          · exact .inl h2
          · refine .inr ?_
            rw [Array.getD_eq_getD_getElem?] at h2 ⊢
            cases h5 : L[o.after[e].on]? with
            | none => rw [h5] at h2; simp at h2
            | some b => rw [h5] at h2; simpa using h2
        refine step _ a w i o K' him ho hi2 hd hI fun a' w' hI' => hK' a' w' (ih _ a' w' (by simp [hs]) ?_ ?_ ?_ ?_)
        · intro j hj hj2
          rw [Array.getD_eq_getD_getElem?, Array.getElem?_setIfInBounds, if_neg (by omega), ← Array.getD_eq_getD_getElem?]
          exact hh j hj hj2
        · intro k hk j hj
          have hmon : ∀ j, L.getD j false = true → (L.setIfInBounds i true).getD j false = true := fun j h => by
            simp only [Array.getD_eq_getD_getElem?, Array.getElem?_setIfInBounds] at h ⊢
            by_cases h1 : i = j
            · subst h1; simp [show i < L.size by omega]
            · rw [if_neg h1]; exact h
          by_cases h1 : i = k
          · subst h1; exact hmon j (hready2 j hj)
          · refine hmon j (hdc k ?_ j hj)
            simp only [Array.getD_eq_getD_getElem?, Array.getElem?_setIfInBounds, if_neg h1] at hk ⊢; exact hk
        · have := unlisted_set L m i him (by omega) hi2; omega
        · have e : (fun j => (L.setIfInBounds i true).getD j true) = (fun j => j == i || L.getD j true) := by
            funext j
            simp only [Array.getD_eq_getD_getElem?, Array.getElem?_setIfInBounds]
            by_cases h : i = j
            · subst h; simp [show i < L.size by omega]
            · simp [h, Ne.symm h]
          rw [e]; exact hI'

end
theorem sel_most (L : Nat → Bool) : ∀ (es : List Eff) (i l : Nat), es.length = l + 1 → (∀ j, i ≤ j → j < i + l → L j = true) → L (i + l) = false → selSl L i es = allSl (es.take l) ∧ selHp L i es = allHp (es.take l)
  | [], i, l, h, _, _ => by simp at h
  | e :: es, i, 0, h, _, h0 => by
    have : es = [] := List.eq_nil_of_length_eq_zero (by simpa using h)
    subst this
    rw [Nat.add_zero] at h0
    simp [selSl, selHp, allSl, allHp, h0]
  | e :: es, i, l + 1, h, h1, h0 => by
    obtain ⟨k1, k2⟩ := sel_most L es (i + 1) l (by simpa using h) (fun j hj hj2 => h1 j (by omega) (by omega)) (by rw [show i + 1 + l = i + (l + 1) from by omega]; exact h0)
    simp only [selSl, selHp, allSl, allHp, List.take_succ_cons]
    rw [if_pos (h1 i (Nat.le_refl _) (by omega)), if_pos (h1 i (Nat.le_refl _) (by omega)), k1, k2]
    exact ⟨rfl, rfl⟩
inductive InsL {α : Type} (d : Nat) (x : α) : List (Nat × α) → List (Nat × α) → Prop where
  | here {s : List (Nat × α)} : InsL d x s ((d, x) :: s)
  | there {k : Nat} {y : α} {s s2 : List (Nat × α)} (hk : Nat.beq k d = false) (h : InsL d x s s2) : InsL d x ((k, y) :: s) ((k, y) :: s2)
section
variable {P : Program} {E : Env} {kp : List Nat} {n : Nat} {ops : Array Oper} {Q : Exit → Act → World → Prop} {base st st' : AS}
theorem AF.late {effs : List Eff} {id m : Nat} (l : Nat) (hlm : l + 1 = m) (hx : P.follows .mixedOrders = true) (hlen : effs.length = m) (hf : floatL ops l = true) (hmn : decide (m ≤ ops.size) = true) (h1 : once effs = true) (h2 : rdOk ops effs = true) (h3 : nmOk ops effs base kp = true)
    (k : AD P E kp n ops Q (ops.size - m + 1) (firstM ops.size l) ⟨allSl (effs.take l) ++ base.slots, allHp (effs.take l) ++ base.heap⟩ ∧ AD P E kp n ops Q (ops.size - m) (firstM ops.size m) ⟨allSl effs ++ base.slots, allHp effs ++ base.heap⟩) : AF P E kp n ops base effs (AW P E kp n (.region id ops true) Q base) := by
  intro hs a w hsat
  have hm := of_decide_eq_true hmn
  have hf' := hf
  unfold floatL at hf'
  simp only [Bool.and_eq_true, List.all_eq_true, List.mem_range] at hf'
  obtain ⟨hlow, _⟩ := hf'
  have hdep : ∀ i, i < m → ∀ j ∈ depsOf ops i, j < i := fun i hi j hj => by
    have h0 := hlow i (by omega)
    unfold depsOf at hj
    cases ho : ops[i]? with
    | none => rw [ho] at hj; simp at hj
    | some o =>
      rw [ho] at h0 hj
      simp only [Option.map_some, Option.getD_some, Array.all_eq_true] at h0 hj
      rw [List.mem_map] at hj
      obtain ⟨e, he, rfl⟩ := hj
      rw [List.mem_filter] at he
      obtain ⟨x, hx, hx2⟩ := Array.mem_iff_getElem.1 (Array.mem_def.2 he.1)
      have := h0 x hx
      rw [hx2] at this
      simp only [Bool.or_eq_true, Bool.not_eq_true', decide_eq_true_eq] at this
      rcases this with h5 | h5
      · rw [he.2] at h5; cases h5
      · exact h5
  let S : (Nat → Bool) → AS := fun L => ⟨selSl L 0 effs ++ base.slots, selHp L 0 effs ++ base.heap⟩
  let DC : (Nat → Bool) → Prop := fun L => ∀ i, i < m → L i = true → ∀ j ∈ depsOf ops i, L j = true
  have hcl : ∀ L, DC L → ∀ i, i < m → (∀ j ∈ depsOf ops i, L j = true) → ∀ j ∈ clos ops i, L j = true := fun L hDC i hi hd j hj => by
    have key := closeN_in (ops := ops) (L := fun x => L x && decide (x < m)) (fun x hx y hy => by
      simp only [Bool.and_eq_true, decide_eq_true_eq] at hx ⊢
      exact ⟨hDC x hx.2 hx.1 y hy, Nat.lt_trans (hdep x hx.2 y hy) hx.2⟩) ops.size (depsOf ops i) (fun y hy => by
      simp only [Bool.and_eq_true, decide_eq_true_eq]
      exact ⟨hd y hy, Nat.lt_trans (hdep i hi y hy) hi⟩) j hj
    simp only [Bool.and_eq_true] at key
    exact key.1
  unfold nmOk at h3
  simp only [Bool.and_eq_true, List.all_eq_true, List.mem_range] at h3
  obtain ⟨h3a, h3b⟩ := h3
  unfold rdOk at h2
  simp only [List.all_eq_true, List.mem_range] at h2
  have hfin := wpAny_late (P := P) (ops := ops) (Q := Q) (m := m) hlm hf hm (fun L a w => Sat E kp n (S L) a w ∧ DC L) ?step ?fin m (Array.replicate ops.size false) a w.drew (by simp) (fun i _ hi => by
      rw [Array.getD_eq_getD_getElem?, Array.getElem?_replicate, if_pos hi]; rfl) (fun i hi => by
      rw [Array.getD_eq_getD_getElem?, Array.getElem?_replicate] at hi; split at hi <;> simp at hi) (unlisted_none _ _ hm) ⟨?start, fun i hi hL => by
      simp only [Array.getD_eq_getD_getElem?, Array.getElem?_replicate] at hL
      rw [if_pos (by omega)] at hL; simp at hL⟩
  case start =>
    obtain ⟨φ, Pub, I, h0, hn, hsl⟩ := hsat
    have : Sat E kp n base a w.drew := ⟨φ, Pub, I.drew, h0, hn, fun s => RA_mono adv_drew _ _ (fun _ _ => rfl) (hsl s)⟩
    refine this.congr (fun s => ?_) (fun r => ?_)
    · show look AV.any (selSl _ 0 effs ++ base.slots) s = _
      rw [look_sel _ _ _ _ _ h1]
      cases hk : maker s 0 effs with
      | none => rfl
      | some p =>
        obtain ⟨j, v⟩ := p
        have := (maker_ge hk).2.1
        simp only
        rw [if_neg]
        simp only [Array.getD_eq_getD_getElem?, Array.getElem?_replicate]
        rw [if_pos (by omega)]; simp
    · show look OB.dead (selHp _ 0 effs ++ base.heap) r = _
      rw [look_selH _ _ _ _ _ h1]
      cases hk : hmaker r 0 effs with
      | none => rfl
      | some p =>
        obtain ⟨j, v⟩ := p
        have := (hmaker_ge hk).2.1
        simp only
        rw [if_neg]
        simp only [Array.getD_eq_getD_getElem?, Array.getElem?_replicate]
        rw [if_pos (by omega)]; simp
  case fin =>
    intro L a w hall ⟨hS, _⟩
    refine ⟨fun hl => ?_, fun hl => ?_⟩
    · obtain ⟨e1, e2⟩ := sel_all L effs 0 (fun j _ hj => by
        by_cases h : j < l
        · exact hall j h
        · rw [show j = l from by omega]; exact hl)
      have hS' : Sat E kp n ⟨allSl effs ++ base.slots, allHp effs ++ base.heap⟩ a w := by rw [← e1, ← e2]; exact hS
      exact k.2 a w hS'
    · obtain ⟨e1, e2⟩ := sel_most L effs 0 l (by omega) (fun j _ hj => hall j (by omega)) (by rw [Nat.zero_add]; exact hl)
      have hS' : Sat E kp n ⟨allSl (effs.take l) ++ base.slots, allHp (effs.take l) ++ base.heap⟩ a w := by rw [← e1, ← e2]; exact hS
      exact k.1 a w hS'
  case step =>
    intro L a w i o K hi ho hLi hd ⟨hS, hDC⟩ hK
    obtain ⟨e, he⟩ : ∃ e, effs[i]? = some e := ⟨_, List.getElem?_eq_getElem (by omega)⟩
    have hdL : ∀ j ∈ depsOf ops i, L j = true := fun j hj => by
      unfold depsOf at hj
      rw [ho] at hj
      simp only [Option.map_some, Option.getD_some] at hj
      rw [List.mem_map] at hj
      obtain ⟨x, hx, rfl⟩ := hj
      rw [List.mem_filter] at hx
      obtain ⟨y, hy, hy2⟩ := Array.mem_iff_getElem.1 (Array.mem_def.2 hx.1)
      rw [Array.all_eq_true] at hd
      have := hd y hy
      rw [hy2] at this
      simp only [Bool.or_eq_true, Bool.not_eq_true'] at this
      rcases this with h5 | h5
      · rw [hx.2] at h5; cases h5
      · exact h5
    have hC := hcl L hDC i hi hdL
    have hnot : ∀ x, x < m → L x = true → i ∉ clos ops x := fun x hx hLx hmem => by
      have := hcl L hDC x hx (hDC x hx hLx) i hmem
      rw [hLi] at this; cases this
    have hstep := hs i e he o ho (S L) (fun s v hrd hkn => ?_) (fun r ob hkn => ?_) (freeAll_mk fun p hp => ?_)
    · refine hstep a w K Q hS (fun a' w' hs' => hK a' w' ⟨hs'.congr (fun s => ?_) (fun r => ?_), fun x hx hLx y hy => ?_⟩)
      · show look AV.any (selSl (fun j => j == i || L j) 0 effs ++ base.slots) s = look AV.any (e.sl ++ (selSl L 0 effs ++ base.slots)) s
        rw [look_sl, look_sel _ _ _ _ _ h1, look_sel _ _ _ _ _ h1]
        cases hes : e.is s with
        | true =>
          rw [maker_mem h1 he hes 0, if_pos rfl]; simp
        | false =>
          rw [if_neg (by simp)]
          cases hk : maker s 0 effs with
          | none => rfl
          | some p =>
            obtain ⟨j, v⟩ := p
            simp only
            have hji : j ≠ i := fun e2 => by
              subst e2
              obtain ⟨_, _, e', h4, h5, _⟩ := maker_ge hk
              rw [Nat.sub_zero, he] at h4; cases h4; rw [hes] at h5; cases h5
            simp [hji]
      · show look OB.dead (selHp (fun j => j == i || L j) 0 effs ++ base.heap) r = look OB.dead (e.hp ++ (selHp L 0 effs ++ base.heap)) r
        rw [look_hp _ _ (once_hp_all h1 he), look_selH _ _ _ _ _ h1, look_selH _ _ _ _ _ h1]
        cases hes : (look OB.dead e.hp r).alive with
        | true =>
          rw [hmaker_mem h1 he hes 0, if_pos rfl]; simp
        | false =>
          rw [if_neg (by simp)]
          cases hk : hmaker r 0 effs with
          | none => rfl
          | some p =>
            obtain ⟨j, v⟩ := p
            simp only
            have hji : j ≠ i := fun e2 => by
              subst e2
              obtain ⟨_, _, e', h4, h5, _⟩ := hmaker_ge hk
              rw [Nat.sub_zero, he] at h4; cases h4; rw [hes] at h5; cases h5
            simp [hji]
      · simp only [Bool.or_eq_true, beq_iff_eq] at hLx ⊢
        rcases hLx with rfl | hLx
        · exact .inr (hdL y hy)
        · exact .inr (hDC x hx hLx y hy)
    · -- a slot that is read
      show look AV.any (selSl L 0 effs ++ base.slots) s = v
      rw [look_sel _ _ _ _ _ h1]
      unfold kn at hkn
      cases hk : maker s 0 (effs.take i) with
      | some p =>
        obtain ⟨j, v'⟩ := p
        rw [hk] at hkn
        simp only at hkn
        cases hj : memN j (depsOf ops i) with
        | false => rw [hj] at hkn; cases hkn
        | true =>
          rw [hj] at hkn; simp at hkn; subst hkn
          rw [maker_take hk]
          simp only
          rw [if_pos (hdL j (memN_iff.1 hj))]
      | none =>
        rw [hk] at hkn; simp at hkn; subst hkn
        cases hk2 : maker s 0 effs with
        | none => rfl
        | some p =>
          obtain ⟨j, v'⟩ := p
          have hge := maker_take_none hk hk2
          have hjm := (maker_ge hk2).2.1
          simp only
          rw [if_neg]
          intro hLj
          have := h2 i (by omega)
          rw [ho] at this
          simp only at this
          have := List.all_eq_true.1 this s (memN_iff.1 hrd)
          rw [hk2] at this
          simp only [Bool.or_eq_true] at this
          rcases this with h5 | h5
          · rw [Nat.blt_eq] at h5; omega
          · exact hnot j (by omega) hLj (memN_iff.1 h5)
    · show look OB.dead (selHp L 0 effs ++ base.heap) r = ob
      rw [look_selH _ _ _ _ _ h1]
      unfold knH at hkn
      cases hk : hmaker r 0 (effs.take i) with
      | some p =>
        obtain ⟨j, v'⟩ := p
        rw [hk] at hkn
        simp only at hkn
        cases hj : memN j (clos ops i) with
        | false => rw [hj] at hkn; cases hkn
        | true =>
          rw [hj] at hkn; simp at hkn; subst hkn
          rw [hmaker_take hk]
          simp only
          rw [if_pos (hC j (memN_iff.1 hj))]
      | none =>
        rw [hk] at hkn; simp only at hkn
        cases hal : (look OB.dead base.heap r).alive with
        | false => rw [hal] at hkn; cases hkn
        | true =>
          rw [hal] at hkn; simp at hkn; subst hkn
          cases hk2 : hmaker r 0 effs with
          | none => rfl
          | some p =>
            obtain ⟨j, v'⟩ := p
            obtain ⟨_, hjm, e', h4, h5, h6⟩ := hmaker_ge hk2
            have := freeAll_mem h3a (mem_allHp h4 (look_mem h5))
            have := (free_split this).1
            rw [hal] at this; cases this
    · -- a name is free
      have hb := free_split (freeAll_mem h3a (mem_allHp he hp))
      have hpa := look_all_alive (once_hp_all h1 he) hp
      have h3i := h3b i (by omega)
      rw [he] at h3i
      simp only [List.all_eq_true, List.mem_range] at h3i
      have hno : ∀ j e', effs[j]? = some e' → L j = true → e'.val.has p.1 = false ∧ hHas p.1 e'.hp = false := fun j e' hj hLj => by
        have hjm : j < effs.length := (List.getElem?_eq_some_iff.1 hj).1
        have := h3i p hp j hjm
        rw [hj] at this
        simp only [Bool.or_eq_true, Bool.and_eq_true, Bool.not_eq_true'] at this
        rcases this with h5 | h5 | h5
        · have := Nat.eq_of_beq_eq_true h5; subst this; rw [hLi] at hLj; cases hLj
        · exact h5
        · exact absurd (memN_iff.1 h5) (hnot j (by omega) hLj)
      refine free_mk ?_ ?_ ?_ hb.2.2.2
      · show (look OB.dead (selHp L 0 effs ++ base.heap) p.1).alive = false
        rw [look_selH _ _ _ _ _ h1, hmaker_mem h1 he hpa 0]
        simp only [Nat.zero_add]
        rw [if_neg (by rw [hLi]; simp)]; exact hb.1
      · show hHas p.1 (selHp L 0 effs ++ base.heap) = false
        rw [hHas_append, hb.2.1, hHas_sel _ _ _ _ (fun j e' hj hLj => (hno j e' hj (by simpa using hLj)).2)]; rfl
      · show sHas p.1 (selSl L 0 effs ++ base.slots) = false
        rw [sHas_append, hb.2.2.1, sHas_sel _ _ _ _ (fun j e' hj hLj => (hno j e' hj (by simpa using hLj)).1)]; rfl
  rw [show m + (ops.size - m) = ops.size from by omega] at hfin
  exact wp_region_any hx hfin


/-- The list with an entry further behind. -/
theorem ins_look {α : Type} (d0 : α) {d : Nat} {x : α} {s s2 : List (Nat × α)} : InsL d x s s2 → ∀ q, look d0 s2 q = look d0 ((d, x) :: s) q := by
  intro h
  induction h with
  | here => intro q; rfl
  | there hk _ ih =>
    rename_i k y s s2 _
    intro q
    have hne : k ≠ d := fun e => by subst e; rw [Nat.beq_refl] at hk; cases hk
    rw [look_cons, ih q, look_cons, look_cons, look_cons]
    by_cases h1 : k = q
    · subst h1; rw [if_pos rfl, if_neg (fun e => hne e.symm), if_pos rfl]
    · rw [if_neg h1, if_neg h1]
theorem wk_ins {s s2 : List (Nat × AV)} {h h2 : List (Nat × OB)} {d r : Nat} {x : AV} {ob : OB} (k1 : InsL d x s s2) (k2 : InsL r ob h h2) : Wk E kp n ⟨(d, x) :: s, (r, ob) :: h⟩ ⟨s2, h2⟩ := fun a w hs => hs.congr (ins_look _ k1) (ins_look _ k2)
theorem AP.one (k i : Nat) {fuel : Nat} {o ok : Oper} {l1 l2 : Array Bool} {st1 st1' st2 st2' stk : AS} (hr1 : (Region.ready .any ops l1).all (fun j => Nat.beq j i || Nat.beq j k) = true) (hr3 : (Region.ready .any ops l1).isEmpty = false) (hr2 : Region.ready .any ops l2 = [i]) (hl : l1.setIfInBounds k true = l2) (hi : ops[i]? = some o) (hk : ops[k]? = some ok)
    (h1 : Step P E kp n ops o st1 st1') (h2 : Step P E kp n ops o st2 st2') (h3 : Step P E kp n ops ok st1 stk) (hw : Wk E kp n stk st2)
    (K : AD P E kp n ops Q (fuel + 1) (l1.setIfInBounds i true) st1' ∧ AD P E kp n ops Q fuel (l2.setIfInBounds i true) st2') : AD P E kp n ops Q (fuel + 2) l1 st1 ∧ AD P E kp n ops Q (fuel + 1) l2 st2 := by
  have second : AD P E kp n ops Q (fuel + 1) l2 st2 := AD.one hr2 hi h2 K.2
  refine ⟨fun a w hs => ⟨(fun h0 => by rw [h0] at hr3; cases hr3), fun j hj => ?_⟩, second⟩
  have hj2 := List.all_eq_true.1 hr1 j hj
  rw [Bool.or_eq_true] at hj2
  by_cases hji : j = i
  · subst hji
    exact wpOp_step hi fun K' hK => h1 a w K' Q hs fun a' w' hs' => hK _ _ (K.1 a' w' hs')
  · have hjk : j = k := by
      rcases hj2 with h | h
      · exact absurd (Nat.eq_of_beq_eq_true h) hji
      · exact Nat.eq_of_beq_eq_true h
    subst hjk
    exact wpOp_step hk fun K' hK => h3 a w K' Q hs fun a' w' hs' => hK _ _ (by rw [hl]; exact second a' w' (hw a' w' hs'))
theorem AP.last (k : Nat) {fuel : Nat} {ok : Oper} {l1 l2 : Array Bool} {st1 st2 stk : AS} (hr1 : Region.ready .any ops l1 = [k]) (hl : l1.setIfInBounds k true = l2) (hk : ops[k]? = some ok)
    (h3 : Step P E kp n ops ok st1 stk) (hw : Wk E kp n stk st2) (K : AD P E kp n ops Q fuel l2 st2) : AD P E kp n ops Q (fuel + 1) l1 st1 ∧ AD P E kp n ops Q fuel l2 st2 :=
  ⟨AD.one hr1 hk h3 (by rw [hl]; exact fun a w hs => K a w (hw a w hs)), K⟩
end
end Go.Proofs.YtcebndkiagbddaaDoor

/- Arrays as values; structs compared; words turned over; pointers against nil. It names no function of the program. -/
namespace Go.Proofs.YtcebndkiagbddaaDoor
open Go.RowKit
set_option linter.unusedVariables false
set_option linter.unusedSimpArgs false

/-! ### Structs compared -/
inductive CK where
  | i (k : IntKind) | b | s
def CK.ok : CK → Value → Prop
  | .i k, .int k' _ => k' = k
  | .b, .bool _ => True
  | .s, .string _ => True
  | _, _ => False
def okL : List CK → List Value → Prop
  | [], [] => True
  | k :: ks, u :: us => k.ok u ∧ okL ks us
  | _, _ => False
def eqCell : Value → Value → Bool
  | .int _ a, .int _ b => a == b
  | .bool a, .bool b => a == b
  | .string a, .string b => a.toList == b.toList
  | _, _ => true
def eqCells : List Value → List Value → Bool
  | a :: as, b :: bs => eqCell a b && eqCells as bs
  | _, _ => true
def flatF (P : Program) (rec : TypeId → Option (List CK)) : List Field → Nat → Option (List CK)
  | [], _ => some []
  | f :: fs, o => if f.name ≠ "_" ∧ f.offset = o then (match rec f.type with
    | some ks => if szOf P f.type = some ks.length then (flatF P rec fs (o + ks.length)).map (ks ++ ·) else none
    | none => none) else none
def flatK (P : Program) : Nat → TypeId → Option (List CK)
  | 0, _ => none
  | d + 1, t => match P.underlying t with
    | some .bool => some [.b]
    | some (.int k) => some [.i k]
    | some .string => some [.s]
    | some (.struct fs) => if P.stoodInHeld t then none else flatF P (flatK P d) fs.toList 0
    | _ => none
theorem okL_length : ∀ {ks : List CK} {us : List Value}, okL ks us → us.length = ks.length
  | [], [], _ => rfl
  | k :: ks, u :: us, h => by simp [okL_length h.2]
  | [], _ :: _, h => by cases h
  | _ :: _, [], h => by cases h
theorem okL_split : ∀ {ks ks' : List CK} {us : List Value}, okL (ks ++ ks') us → okL ks (us.take ks.length) ∧ okL ks' (us.drop ks.length)
  | [], ks', us, h => by simpa [okL] using h
  | k :: ks, ks', u :: us, h => by
    obtain ⟨h1, h2⟩ := okL_split (ks := ks) (ks' := ks') (us := us) h.2
    exact ⟨⟨h.1, h1⟩, h2⟩
  | k :: ks, ks', [], h => by cases h
theorem eqCells_app : ∀ {as bs cs ds : List Value}, as.length = bs.length → eqCells (as ++ cs) (bs ++ ds) = (eqCells as bs && eqCells cs ds)
  | [], [], cs, ds, _ => by simp [eqCells]
  | a :: as, b :: bs, cs, ds, h => by
    simp only [List.cons_append, eqCells, eqCells_app (as := as) (bs := bs) (by simpa using h), Bool.and_assoc]
  | [], _ :: _, _, _, h => by simp at h
  | _ :: _, [], _, _, h => by simp at h
section
variable {P : Program} {w : World}
/-- A value of a type, with these cells. -/
def IsPk (P : Program) (t : TypeId) (us : List Value) (v : Value) : Prop := match aggOf P t with
  | some true => v = .agg us.toArray
  | _ => us = [v]
theorem part_pk {t : TypeId} {ks : List CK} {xs : List Value} {off d : Nat} (hk : flatK P d t = some ks) (hs : szOf P t = some ks.length) (hx : okL ks ((xs.drop off).take ks.length)) :
    ∃ v, (part t xs.toArray off).run P w = .ok v w ∧ IsPk P t ((xs.drop off).take ks.length) v := by
  cases d with
  | zero => simp [flatK] at hk
  | succ d =>
    have hlen := okL_length hx
    have one : ∀ k : CK, ks = [k] → ∃ v, xs[off]? = some v ∧ (xs.drop off).take ks.length = [v] := fun k e => by
      subst e
      simp only [List.length_cons, List.length_nil, Nat.zero_add] at hlen ⊢
      cases hq : xs[off]? with
      | none =>
        rw [List.getElem?_eq_none_iff] at hq
        rw [List.length_take, List.length_drop] at hlen; omega
      | some v =>
        obtain ⟨h1, h2⟩ := List.getElem?_eq_some_iff.1 hq
        refine ⟨v, rfl, ?_⟩
        rw [List.drop_eq_getElem_cons h1, h2]; rfl
    unfold flatK at hk
    cases hu : P.underlying t with
    | none => rw [hu] at hk; cases hk
    | some td =>
      rw [hu] at hk
      have row : td.isRow = false → ∀ k : CK, ks = [k] → ∃ v, (part t xs.toArray off).run P w = .ok v w ∧ IsPk P t ((xs.drop off).take ks.length) v := fun hr k e => by
        obtain ⟨v, h1, h2⟩ := one k e
        have ha : aggOf P t = some false := by unfold aggOf; rw [hu, Option.map_some, hr]
        refine ⟨v, ?_, by unfold IsPk; rw [ha]; exact h2⟩
        unfold part
        rw [Sem.run_bind, run_isAgg ha]
        simp [h1]
      cases td <;> simp only [reduceCtorEq] at hk
      case bool => exact row rfl _ (by cases hk; rfl)
      case int => exact row rfl _ (by cases hk; rfl)
      case string => exact row rfl _ (by cases hk; rfl)
      case struct fs =>
        have ha : aggOf P t = some true := by unfold aggOf; rw [hu]; rfl
        refine ⟨.agg (xs.toArray.extract off (off + ks.length)), ?_, ?_⟩
        · unfold part
          rw [Sem.run_bind, run_isAgg ha]
          simp only [Result.andThen_ok, if_true, Sem.run_bind, run_sizeOf hs, Sem.run_pure]
        · unfold IsPk; rw [ha]
          show Value.agg _ = Value.agg _
          congr 1
          apply Array.ext'
          simp [List.extract_eq_take_drop]
theorem flat_run : ∀ (d : Nat) {t : TypeId} {ks : List CK}, flatK P d t = some ks → ∀ (D : Nat), d ≤ D → ∀ {us vs : List Value} {a b : Value} {w : World}, okL ks us → okL ks vs → IsPk P t us a → IsPk P t vs b →
    (Op.equalIn D t a b).run P w = .ok (eqCells us vs) w
  | 0, t, ks, hk, D, hD, us, vs, a, b, w, hu', hv', ha, hb => by simp [flatK] at hk
  | d + 1, t, ks, hk, D, hD, us, vs, a, b, w, hu', hv', ha, hb => by
    obtain ⟨D, rfl⟩ : ∃ D', D = D' + 1 := ⟨D - 1, by omega⟩
    unfold flatK at hk
    cases hu : P.underlying t with
    | none => rw [hu] at hk; cases hk
    | some td =>
      rw [hu] at hk
      have cell : td.isRow = false → ∀ k : CK, ks = [k] → us = [a] ∧ vs = [b] ∧ k.ok a ∧ k.ok b := fun hr k e => by
        have hg : aggOf P t = some false := by unfold aggOf; rw [hu, Option.map_some, hr]
        unfold IsPk at ha hb
        rw [hg] at ha hb
        subst ha hb e
        exact ⟨rfl, rfl, hu'.1, hv'.1⟩
      cases td <;> simp only [reduceCtorEq] at hk
      case bool =>
        cases hk
        obtain ⟨rfl, rfl, h1, h2⟩ := cell rfl .b rfl
        cases a <;> cases b <;> simp only [CK.ok] at h1 h2
        rw [run_equalIn_bool' w D t _ _ hu]; simp [eqCells, eqCell]
      case int k =>
        cases hk
        obtain ⟨rfl, rfl, h1, h2⟩ := cell rfl (.i k) rfl
        cases a <;> cases b <;> simp only [CK.ok] at h1 h2
        subst h1 h2
        rw [run_equalIn_int w D t _ _ _ _ hu]; simp [eqCells, eqCell]
      case string =>
        cases hk
        obtain ⟨rfl, rfl, h1, h2⟩ := cell rfl .s rfl
        cases a <;> cases b <;> simp only [CK.ok] at h1 h2
        rw [run_equalIn_string w D t _ _ hu]; simp [eqCells, eqCell]
      case struct fs =>
        cases hp : P.stoodInHeld t with
        | true => rw [hp] at hk; simp at hk
        | false =>
          rw [hp] at hk
          simp only [Bool.false_eq_true, if_false] at hk
          have hg : aggOf P t = some true := by unfold aggOf; rw [hu]; rfl
          unfold IsPk at ha hb
          rw [hg] at ha hb
          subst ha hb
          have hfo : P.fieldsOf t = fs := by unfold Program.fieldsOf; rw [hu]
          rw [run_equalIn_struct w D t _ _ (by rw [hfo]; exact hu) hp, hfo]
          have key : ∀ (l : List Field) (o : Nat) (ks : List CK), flatF P (flatK P d) l o = some ks → okL ks (us.drop o) → okL ks (vs.drop o) → (Op.eqFields D us.toArray vs.toArray l).run P w = .ok (eqCells (us.drop o) (vs.drop o)) w := by
            intro l
            induction l with
            | nil =>
              intro o ks h k1 k2
              cases h
              have e1 := okL_length k1
              rw [List.eq_nil_of_length_eq_zero e1]
              simp [Op.eqFields, eqCells]
            | cons f l ih =>
              intro o ks h k1 k2
              unfold flatF at h
              split at h
              · next hn =>
                split at h
                · next kf hf =>
                  split at h
                  · next hz =>
                    cases hq : flatF P (flatK P d) l (o + kf.length) with
                    | none => rw [hq] at h; cases h
                    | some kr =>
                      rw [hq] at h; cases h
                      obtain ⟨a1, a2⟩ := okL_split k1
                      obtain ⟨b1, b2⟩ := okL_split k2
                      rw [List.drop_drop] at a2 b2
                      obtain ⟨va, p1, p2⟩ := part_pk (w := w) (xs := us) (off := o) hf hz a1
                      obtain ⟨vb, q1, q2⟩ := part_pk (w := w) (xs := vs) (off := o) hf hz b1
                      have hr := flat_run d hf D (by omega) (w := w) a1 b1 p2 q2
                      simp only [Op.eqFields, hn.1, ne_eq, not_false_eq_true, if_true, Sem.run_bind, hn.2, p1, q1, hr, Result.andThen_ok]
                      have ec : eqCells (us.drop o) (vs.drop o) = (eqCells ((us.drop o).take kf.length) ((vs.drop o).take kf.length) && eqCells (us.drop (o + kf.length)) (vs.drop (o + kf.length))) := by
                        have l1 := okL_length a1; have l2 := okL_length b1
                        rw [← eqCells_app (by rw [l1, l2]), ← List.drop_drop, ← List.drop_drop, List.take_append_drop, List.take_append_drop]
                      rw [ec]
                      cases eqCells ((us.drop o).take kf.length) ((vs.drop o).take kf.length) with
                      | false => simp
                      | true => simpa using ih (o + kf.length) kr hq a2 b2
                  · cases h
                · cases h
              · cases h
          simpa using key fs.toList 0 ks hk (by simpa using hu') (by simpa using hv')
end
def valsA : List AV → Option (List Value)
  | [] => some []
  | .p (.v u) :: l => (valsA l).map (u :: ·)
  | _ => none
theorem valsA_R {w : World} {Pub : Nat → Nat → Prop} {φ : Ghost} : ∀ {l : List AV} {us vs : List Value}, valsA l = some us → RAs w Pub φ l vs → vs = us
  | [], us, vs, h, k => by cases h; unfold RAs at k; exact k
  | x :: l, us, vs, h, k => by
    unfold RAs at k
    obtain ⟨u, us', rfl, k1, k2⟩ := k
    unfold valsA at h
    split at h
    · next e => cases e
    · next u' l' e =>
      cases e
      cases hq : valsA l with
      | none => rw [hq] at h; cases h
      | some q =>
        rw [hq] at h; cases h
        unfold RA RP at k1
        rw [valsA_R hq k2, k1]
    · cases h
section
variable {P : Program} {E : Env} {kp : List Nat} {n : Nat} {ops : Array Oper} {st : AS} {d : Nat} {ty : TypeId} {ps : String} {af : Array Edge}
theorem S_eqAgg {T T' : TypeId} {x y : Operand} {xs ys : List AV} {us vs : List Value} {ks : List CK} {D : Nat} (hx : Gv (st.ev x) (.agg xs)) (hy : Gv (st.ev y) (.agg ys)) (h1 : valsA xs = some us) (h2 : valsA ys = some vs)
    (hD : D ≤ 10000) (hk : flatK P D T = some ks) (ha : aggOf P T = some true) (hg : P.eqGuardType P.depth T = false) (o1 : okL ks us) (o2 : okL ks vs) (hd : Nat.blt d n = true) :
    Step P E kp n ops ⟨some d, .binOp .eql T x y T', ty, ps, af, none⟩ st (st.put d (.p (.v (.bool (eqCells us vs))))) :=
  S_pure _ rfl rfl hd fun a w φ Pub I hR => by
    have k1 := hx _ _ _ _ (hR x); have k2 := hy _ _ _ _ (hR y)
    unfold RA at k1 k2
    obtain ⟨u, e1, k1⟩ := k1; obtain ⟨v, e2, k2⟩ := k2
    rw [valsA_R h1 k1] at e1; rw [valsA_R h2 k2] at e2
    refine ⟨.bool (eqCells us vs), ?_, by simp [RA, RP]⟩
    have hr := flat_run (w := w) D hk 10000 hD o1 o2 (a := .agg us.toArray) (b := .agg vs.toArray) (by unfold IsPk; rw [ha]) (by unfold IsPk; rw [ha])
    simp only [execOp, e1, e2, Sem.run_bind, run_eqGuard_agg w _ _ _ _ _ _ hg, Result.andThen_ok, run_eql_struct, hr, Sem.run_pure]
theorem S_neAgg {T T' : TypeId} {x y : Operand} {xs ys : List AV} {us vs : List Value} {ks : List CK} {D : Nat} (hx : Gv (st.ev x) (.agg xs)) (hy : Gv (st.ev y) (.agg ys)) (h1 : valsA xs = some us) (h2 : valsA ys = some vs)
    (hD : D ≤ 10000) (hk : flatK P D T = some ks) (ha : aggOf P T = some true) (hg : P.eqGuardType P.depth T = false) (o1 : okL ks us) (o2 : okL ks vs) (hd : Nat.blt d n = true) :
    Step P E kp n ops ⟨some d, .binOp .neq T x y T', ty, ps, af, none⟩ st (st.put d (.p (.v (.bool (!eqCells us vs))))) :=
  S_pure _ rfl rfl hd fun a w φ Pub I hR => by
    have k1 := hx _ _ _ _ (hR x); have k2 := hy _ _ _ _ (hR y)
    unfold RA at k1 k2
    obtain ⟨u, e1, k1⟩ := k1; obtain ⟨v, e2, k2⟩ := k2
    rw [valsA_R h1 k1] at e1; rw [valsA_R h2 k2] at e2
    refine ⟨.bool (!eqCells us vs), ?_, by simp [RA, RP]⟩
    have hr := flat_run (w := w) D hk 10000 hD o1 o2 (a := .agg us.toArray) (b := .agg vs.toArray) (by unfold IsPk; rw [ha]) (by unfold IsPk; rw [ha])
    simp only [execOp, e1, e2, Sem.run_bind, run_eqGuard_agg w _ _ _ _ _ _ hg, Result.andThen_ok, run_neq_struct, hr, Sem.run_pure]

/-! ### Words turned over -/
theorem S_inv {x : Operand} {T : TypeId} {k : IntKind} {i r : Int} (hx : Gv (st.ev x) (.p (.v (.int k i)))) (hr : k.wrap ((BitVec.ofInt k.bits (if k.signed then -1 else k.max) ^^^ BitVec.ofInt k.bits i).toNat : Int) = r) (hd : Nat.blt d n = true) :
    Step P E kp n ops ⟨some d, .unOp .xor T x, ty, ps, af, none⟩ st (st.put d (.p (.v (.int k r)))) :=
  S_pure _ rfl rfl hd fun a w φ Pub I hs => by
    have e1 := hx.v (hs x)
    exact ⟨.int k r, by simp only [execOp, e1, Op.unary, Op.intBits, hr]; simp, by simp [RA, RP]⟩

theorem beqS (l m : List UInt8) : (((⟨l.toArray⟩ : ByteArray).toList == (⟨m.toArray⟩ : ByteArray).toList)) = decide (l = m) := by
  rw [ba_toList, ba_toList, beq_dec]
theorem S_minS {T1 T2 : TypeId} {x y : Operand} {l m : List UInt8} (hx : Gv (st.ev x) (.p (strP l))) (hy : Gv (st.ev y) (.p (strP m))) (hd : Nat.blt d n = true) :
    Step P E kp n ops ⟨some d, .call { callee := .builtin .min, args := #[x, y], argTypes := #[T1, T2] }, ty, ps, af, none⟩ st (st.put d (.p (strP (bif Op.bytesLess l m || decide (l = m) then l else m)))) :=
  S_call_pure _ hd fun a w φ Pub I hR => by
    have e1 := hx.v (hR x)
    have e2 := hy.v (hR y)
    refine ⟨.string ⟨(bif Op.bytesLess l m || decide (l = m) then l else m).toArray⟩, ?_, by simp [RA, RP]⟩
    simp only [builtin, List.map_toArray, List.map_cons, List.map_nil, e1, e2]
    have h : (Builtin.min2 (.string ⟨l.toArray⟩) (.string ⟨m.toArray⟩)).run P w = .ok (.string ⟨(bif Op.bytesLess l m || decide (l = m) then l else m).toArray⟩) w := by
      simp only [Builtin.min2, Op.stringOp, ba_toList, beq_dec]
      cases hq : (Op.bytesLess l m || decide (l = m)) <;> simp [asBool, hq]
    simp only [Builtin.min_, List.foldlM_cons, List.foldlM_nil, Sem.run_bind, h, Result.andThen_ok, Sem.run_pure]
theorem S_maxS {T1 T2 : TypeId} {x y : Operand} {l m : List UInt8} (hx : Gv (st.ev x) (.p (strP l))) (hy : Gv (st.ev y) (.p (strP m))) (hd : Nat.blt d n = true) :
    Step P E kp n ops ⟨some d, .call { callee := .builtin .max, args := #[x, y], argTypes := #[T1, T2] }, ty, ps, af, none⟩ st (st.put d (.p (strP (bif Op.bytesLess l m then m else l)))) :=
  S_call_pure _ hd fun a w φ Pub I hR => by
    have e1 := hx.v (hR x)
    have e2 := hy.v (hR y)
    refine ⟨.string ⟨(bif Op.bytesLess l m then m else l).toArray⟩, ?_, by simp [RA, RP]⟩
    simp only [builtin, List.map_toArray, List.map_cons, List.map_nil, e1, e2]
    have h : (Builtin.max2 (.string ⟨l.toArray⟩) (.string ⟨m.toArray⟩)).run P w = .ok (.string ⟨(bif Op.bytesLess l m then m else l).toArray⟩) w := by
      simp only [Builtin.max2, Op.stringOp, ba_toList, beq_dec]
      cases hq : (Op.bytesLess l m) <;> simp [asBool, hq]
    simp only [Builtin.max_, List.foldlM_cons, List.foldlM_nil, Sem.run_bind, h, Result.andThen_ok, Sem.run_pure]
theorem S_strGt {T T' : TypeId} {x y : Operand} {l m : List UInt8} (hx : Gv (st.ev x) (.p (strP l))) (hy : Gv (st.ev y) (.p (strP m))) (hd : Nat.blt d n = true) :
    Step P E kp n ops ⟨some d, .binOp .gtr T x y T', ty, ps, af, none⟩ st (st.put d (.p (boolP (!(Op.bytesLess l m || decide (l = m)))))) := S_strCmp hx hy hd fun w => by
  simp only [eqGuard, binOp, Op.stringOp, ba_toList, beq_dec]; rfl
theorem S_strGe {T T' : TypeId} {x y : Operand} {l m : List UInt8} (hx : Gv (st.ev x) (.p (strP l))) (hy : Gv (st.ev y) (.p (strP m))) (hd : Nat.blt d n = true) :
    Step P E kp n ops ⟨some d, .binOp .geq T x y T', ty, ps, af, none⟩ st (st.put d (.p (boolP (!Op.bytesLess l m)))) := S_strCmp hx hy hd fun w => by
  simp only [eqGuard, binOp, Op.stringOp, ba_toList, beq_dec]; rfl

/-! ### Pointers against nil -/
def isPtr (b : Bool) (x : AV) : Prop := ∀ w Pub φ u, RA w Pub φ x u → ∃ p : Option Addr, u = .pointer p ∧ p.isNone = b
theorem S_eqNil {T T' e : TypeId} {x y : Operand} {b : Bool} (hx : isPtr b (st.ev x)) (hy : Gv (st.ev y) (.p (.v (.pointer none)))) (hu : P.underlying T = some (.pointer e)) (hd : Nat.blt d n = true) :
    Step P E kp n ops ⟨some d, .binOp .eql T x y T', ty, ps, af, none⟩ st (st.put d (.p (.v (.bool b)))) :=
  S_pure _ rfl rfl hd fun a w φ Pub I hR => by
    obtain ⟨p, e1, hp⟩ := hx _ _ _ _ (hR x)
    have e2 := hy.v (hR y)
    refine ⟨.bool b, ?_, by simp [RA, RP]⟩
    have hpe : P.pointee T = e := by unfold Program.pointee; rw [hu]
    simp only [execOp, e1, e2, eqGuard]
    simp [run_eql_pointer_nil w T p (by rw [hpe]; exact hu), hp]
theorem S_neNil {T T' e : TypeId} {x y : Operand} {b : Bool} (hx : isPtr b (st.ev x)) (hy : Gv (st.ev y) (.p (.v (.pointer none)))) (hu : P.underlying T = some (.pointer e)) (hd : Nat.blt d n = true) :
    Step P E kp n ops ⟨some d, .binOp .neq T x y T', ty, ps, af, none⟩ st (st.put d (.p (.v (.bool (!b))))) :=
  S_pure _ rfl rfl hd fun a w φ Pub I hR => by
    obtain ⟨p, e1, hp⟩ := hx _ _ _ _ (hR x)
    have e2 := hy.v (hR y)
    refine ⟨.bool (!b), ?_, by simp [RA, RP]⟩
    have hpe : P.pointee T = e := by unfold Program.pointee; rw [hu]
    simp only [execOp, e1, e2, eqGuard]
    simp [run_neq_pointer_nil w T p (by rw [hpe]; exact hu), hp]

/-! ### Bytes of a constant string -/
theorem heap_freeze_other (w : World) (a : Addr) (m k : Nat) (hk : k ≠ a.block) : (w.freeze a m).heap[k]? = w.heap[k]? := by
  unfold World.freeze
  split
  · rfl
  · simp only [Array.getElem?_modify]
    rw [if_neg (Ne.symm hk)]
theorem heap_freeze_same {w : World} {a : Addr} {m : Nat} {cur : Array Value} {t : TypeId} {lo hi : Nat} (hb : w.heap[a.block]? = some (.cells cur t (lo, hi))) (hm : m ≠ 0) :
    (w.freeze a m).heap[a.block]? = some (.cells cur t (if lo == hi then (a.off, a.off + m) else (min lo a.off, max hi (a.off + m)))) := by
  unfold World.freeze
  rw [if_neg hm]
  simp only [Array.getElem?_modify, if_true, hb, Option.map_some]
theorem size_freeze (w : World) (a : Addr) (m : Nat) : (w.freeze a m).heap.size = w.heap.size := by
  unfold World.freeze
  split
  · rfl
  · simp
theorem cell_freeze (w : World) (a : Addr) (m : Nat) (k i : Nat) : (w.freeze a m).cell? ⟨k, i, none⟩ = w.cell? ⟨k, i, none⟩ := by
  unfold World.cell?
  by_cases hk : k = a.block
  · subst hk
    by_cases hm : m = 0
    · unfold World.freeze; rw [if_pos hm]
    · cases hb : w.heap[a.block]? with
      | none =>
        have : (w.freeze a m).heap[a.block]? = none := by
          unfold World.freeze; rw [if_neg hm]
          simp only [Array.getElem?_modify, if_true, hb, Option.map_none]
        simp only [this]
      | some o =>
        cases o with
        | cells cur t fr => rw [heap_freeze_same (lo := fr.1) (hi := fr.2) hb hm]
        | _ =>
          have : (w.freeze a m).heap[a.block]? = w.heap[a.block]? := by
            unfold World.freeze; rw [if_neg hm]
            simp only [Array.getElem?_modify, if_true, hb, Option.map_some]
          rw [this, hb]
  · rw [heap_freeze_other _ _ _ _ hk]
theorem streams_freeze (w : World) (a : Addr) (m : Nat) : (w.freeze a m).os = w.os ∧ (w.freeze a m).tape = w.tape ∧ (w.freeze a m).output = w.output := by
  unfold World.freeze; split <;> exact ⟨rfl, rfl, rfl⟩
/-- Something about a block of the call's own that no cell shows. -/
theorem Inv.touch {φ : Ghost} {Pub : Nat → Nat → Prop} {h : List (Nat × OB)} {w w' : World} (I : Inv E kp φ Pub h w) {r b c : Nat} (ha : (look OB.dead h r).alive = true) (hr : φ r = some (b, c)) (s1 : w'.os = w.os) (s2 : w'.tape = w.tape) (s3 : w'.output = w.output)
    (hsz : w'.heap.size = w.heap.size) (hoth : ∀ k, k ≠ b → w'.heap[k]? = w.heap[k]?) (hcell : ∀ k i, w'.cell? ⟨k, i, none⟩ = w.cell? ⟨k, i, none⟩) (hob : Hp w' Pub φ r (look OB.dead h r)) : Inv E kp φ Pub h w' := by
  have hm := I.mine r b c ha hr
  have H : Adv w Pub w' Pub := fun k i hp => ⟨hp, hcell k i⟩
  refine I.next s1 s2 s3 (by rw [hsz]; exact Nat.le_refl _) (fun k hk hA => hoth k (fun e => by
      subst e
      rcases hm with hm | hm
      · omega
      · exact hA hm)) H (fun _ _ hp => .inl hp) (fun k i hk => by rw [hsz]; exact I.publ k i hk) (fun q hq => ?_) (fun q k c' hq hk => I.mine q k c' hq hk) (fun q q' k c1 c2 hq hq' hk hk' => I.inj q q' k c1 c2 hq hq' hk hk') (fun _ _ => rfl)
  by_cases e : r = q
  · subst e; exact hob
  · refine Hp_keep H (fun k c' hk => ⟨hoth k (fun e2 => ?_), fun i hi => hi⟩) rfl (fun _ _ => rfl) (I.own q)
    subst e2
    exact e (I.inj r q _ _ _ ha hq hr hk)
theorem S_markStr {T e : TypeId} {x : Operand} {r m sz pub : Nat} {cells : List PV} {t : TypeId} (hx : Gv (st.ev x) (.osl r m)) (hl : st.ob r = .row cells t sz pub) (h1 : P.underlying T = some (.slice e)) (h3 : P.underlying e = some (.int .u8)) (hm : 0 < m) (ht : t = 5) (hd : Nat.blt d n = true) :
    Step P E kp n ops ⟨some d, .convert T T x, ty, ps, af, none⟩ st (st.put d (.osl r m)) := by
  refine Step.val rfl fun a w ⟨φ, Pub, I, h0, hn, hsl⟩ => ?_
  have hv := hx _ _ _ _ (ev_R (h := st.heap) hsl x)
  have hv' := hv
  unfold RA at hv
  rcases hv with ⟨b, c, e0, ev, hc⟩ | ⟨_, hz, _⟩
  · have hl' : look OB.dead st.heap r = .row cells t sz pub := hl
    have k := I.own r
    rw [hl'] at k
    rcases k with ⟨k0, _⟩ | ⟨b', c', cur, fr, k1, ⟨k2, k2'⟩, k3, k4, k5, k6, k7, k8⟩
    · rw [e0] at k0; cases k0
    · rw [e0] at k1; cases k1
      obtain ⟨lo, hi⟩ := fr
      obtain ⟨s1, s2, s3⟩ := streams_freeze w ⟨b, cur.size, none⟩ 1
      have hb2 := heap_freeze_same (a := ⟨b, cur.size, none⟩) k2 (m := 1) (by decide)
      have hcell : ∀ k i, (w.freeze ⟨b, cur.size, none⟩ 1).cell? ⟨k, i, none⟩ = w.cell? ⟨k, i, none⟩ := fun k i => cell_freeze w _ 1 k i
      have H : Adv w Pub (w.freeze ⟨b, cur.size, none⟩ 1) Pub := fun k i hp => ⟨hp, hcell k i⟩
      have I' : Inv E kp φ Pub st.heap (w.freeze ⟨b, cur.size, none⟩ 1) := by
        refine I.touch (by rw [hl']; rfl) e0 s1 s2 s3 (size_freeze _ _ _) (fun k hk => heap_freeze_other w _ 1 k hk) hcell ?_
        rw [hl']
        refine .inr ⟨b, c, cur, _, e0, ⟨hb2, ?_⟩, k3, k4, k5, RPs_mono H _ _ k6, k7, k8⟩
        unfold FrOk at k2' ⊢
        by_cases hq : (lo == hi) = true
        · rw [if_pos hq]; exact .inr ⟨Nat.le_refl _, ht⟩
        · rw [if_neg hq]
          rcases k2' with k2' | k2'
          · cases k2'; simp at hq
          · exact .inr ⟨by have := k2'.1; simp only at this ⊢; omega, ht⟩
      refine ⟨a.eval x, _, ?_, Sat.put I' h0 hn (fun s => RA_mono H _ _ (fun _ _ => rfl) (hsl s)) hd (RA_mono H _ _ (fun _ _ => rfl) hv')⟩
      have hsh : w.shape? b = some (t, cur.size) := by unfold World.shape?; rw [k2]
      simp only [execOp, ev, convert, Sem.run_bind, run_underlying h1, Result.andThen_ok, run_underlying h3, beq_self_eq_true, markStringish, run_shape, hsh, run_freeze, Sem.run_pure]
  · omega

/-! ### Array literals -/
theorem S_buildAr {T : TypeId} {parts : List (Nat × Operand)} {m s : Nat} {z : List Value} {out : List AV} (hT : arOf P T = some (m, s)) (hz : zeOf P T = some z) (hf : fillA ((List.range m).map fun i => (i * s, s)) (boxV z) (parts.map fun p => (p.1, st.ev p.2)) = some out) (hd : Nat.blt d n = true) :
    Step P E kp n ops ⟨some d, .build T parts.toArray, ty, ps, af, none⟩ st (st.put d (.agg out)) :=
  S_pure _ rfl rfl hd fun a w φ Pub I hR => by
    obtain ⟨e, hu, hs⟩ := ar_of hT
    obtain ⟨v, hv, hc⟩ := run_zeroCells hz w
    obtain ⟨cur', h1, h2⟩ := fill_R (place := fun i => some (i * s, s)) (a := a) (fun i os hos => by
      rw [List.getElem?_map] at hos
      cases hq : (List.range m)[i]? with
      | none => rw [hq] at hos; cases hos
      | some j =>
        rw [hq] at hos
        obtain ⟨_, e⟩ := List.getElem?_eq_some_iff.1 hq
        rw [List.getElem_range] at e
        subst e; exact hos) (us := parts.map fun p => (p.1, a.eval p.2)) (cur := z.toArray) hf (RAs_vals z) (by simp) (fun j i x hj => by
      rw [List.getElem?_map] at hj ⊢
      cases hq : parts[j]? with
      | none => rw [hq] at hj; cases hj
      | some p =>
        rw [hq] at hj
        simp only [Option.map_some, Option.some.injEq, Prod.mk.injEq] at hj
        obtain ⟨rfl, rfl⟩ := hj
        exact ⟨a.eval p.2, rfl, hR p.2⟩)
    refine ⟨.agg cur', ?_, by unfold RA; exact ⟨cur'.toList, by simp, h2⟩⟩
    have hr : (Instr.build T (parts.toArray.map fun (i, x) => (i, a.eval x))).run P w = .ok (.agg cur') w := by
      unfold Instr.build
      simp only [Sem.run_bind, hv, hc, Result.andThen_ok, run_underlying hu, run_sizeOf hs]
      have e : (parts.toArray.map fun (p : Nat × Operand) => (p.1, a.eval p.2)).toList = parts.map fun p => (p.1, a.eval p.2) := by simp
      rw [e, h1]; rfl
    simp only [execOp]
    rw [Sem.run_bind]
    exact (by rw [hr]; rfl)
end
end Go.Proofs.YtcebndkiagbddaaDoor

/- Maps of nets, and iterators over them, among the blocks of a call's own. It names no function of the program. -/
namespace Go.Proofs.YtcebndkiagbddaaDoor
open Go.RowKit
open Go.ChangeMaps (setBlock)
set_option linter.unusedVariables false
set_option linter.unusedSimpArgs false

abbrev NetMap := List ((UInt32 × Int) × List UInt8)
def nmV (k : UInt32 × Int) : Value := .agg #[.int .u32 (k.1.toNat : Int), .int .i64 k.2]
/-- The map of some nets' owners. -/
def mpEnt (i : Nat) : NetMap → List MapEntry
  | [] => []
  | e :: es => { key := nmV e.1, val := .string ⟨⟨e.2⟩⟩, born := i } :: mpEnt (i + 1) es
def mpObj (es : NetMap) : Obj := .map (mpEnt 0 es).toArray es.length
theorem mpEnt_len : ∀ (es : NetMap) (i : Nat), (mpEnt i es).length = es.length
  | [], _ => rfl
  | e :: es, i => by simp [mpEnt, mpEnt_len es]
theorem mpEnt_get : ∀ (es : NetMap) (i j : Nat), (mpEnt i es)[j]? = es[j]?.map fun e => { key := nmV e.1, val := .string ⟨⟨e.2⟩⟩, born := i + j }
  | [], _, _ => rfl
  | e :: es, i, 0 => rfl
  | e :: es, i, j + 1 => by
    simp only [mpEnt, List.getElem?_cons_succ]
    rw [mpEnt_get es (i + 1) j, show i + 1 + j = i + (j + 1) from by omega]
theorem mpEnt_snoc : ∀ (es : NetMap) (i : Nat) (e : (UInt32 × Int) × List UInt8), mpEnt i (es ++ [e]) = mpEnt i es ++ [{ key := nmV e.1, val := .string ⟨⟨e.2⟩⟩, born := i + es.length }]
  | [], i, e => by simp [mpEnt]
  | x :: es, i, e => by
    simp only [List.cons_append, mpEnt, mpEnt_snoc es, List.length_cons]
    rw [show i + 1 + es.length = i + (es.length + 1) from by omega]
def mpIdx (k : UInt32 × Int) : NetMap → Option (Nat × List UInt8)
  | [] => none
  | e :: es => if k = e.1 then some (0, e.2) else (mpIdx k es).map fun p => (p.1 + 1, p.2)
def mpVal (k : UInt32 × Int) (es : NetMap) : List UInt8 := match mpIdx k es with
  | some p => p.2
  | none => []
def mpHas (k : UInt32 × Int) (es : NetMap) : Bool := (mpIdx k es).isSome
def mpPut (k : UInt32 × Int) (v : List UInt8) (es : NetMap) : NetMap := match mpIdx k es with
  | some p => es.set p.1 (k, v)
  | none => es ++ [(k, v)]
theorem mpIdx_at {k : UInt32 × Int} : ∀ {es : NetMap} {p : Nat × List UInt8}, mpIdx k es = some p → es[p.1]? = some (k, p.2)
  | [], p, h => by cases h
  | e :: es, p, h => by
    unfold mpIdx at h
    by_cases hk : k = e.1
    · rw [if_pos hk] at h; cases h; rw [hk]; rfl
    · rw [if_neg hk] at h
      cases hq : mpIdx k es with
      | none => rw [hq] at h; cases h
      | some q => rw [hq] at h; cases h; simpa using mpIdx_at (es := es) hq
/-- What is to be known of the types of such a map. -/
structure MapT (P : Program) (T K V : TypeId) : Prop where
  u : P.underlying T = some (.map K V)
  fl : flatK P 20 K = some [.i .u32, .i .i64]
  ag : aggOf P K = some true
  wide : (match P.underlying K with | some (.array _ _) | some (.struct _) => true | _ => false) = true
  ck : ∀ (e : Bool) (k : UInt32 × Int) (w : World), (Instr.checkKey e 10000 K (nmV k)).run P w = .ok () w
  zv : ∀ w : World, (zeroValue V).run P w = .ok (.string ⟨⟨[]⟩⟩) w
theorem run_ckInt {P : Program} {T : TypeId} {q : IntKind} (h : P.underlying T = some (.int q)) (e : Bool) (n : Nat) (v : Value) (w : World) : (Instr.checkKey e (n + 1) T v).run P w = .ok () w := by
  simp [Instr.checkKey, run_underlying h]
theorem ck_net {P : Program} {K : TypeId} {f0 f1 : Field} (hs : P.underlying K = some (.struct #[f0, f1])) (h0 : P.underlying f0.type = some (.int .u32)) (h1 : P.underlying f1.type = some (.int .i64)) (o0 : f0.offset = 0) (o1 : f1.offset = 1) (a0 : aggOf P f0.type = some false) (a1 : aggOf P f1.type = some false)
    (e : Bool) (k : UInt32 × Int) (w : World) : (Instr.checkKey e 10000 K (nmV k)).run P w = .ok () w := by
  unfold Instr.checkKey nmV
  rw [Sem.run_bind, run_underlying hs]
  simp only [Result.andThen_ok]
  simp [part, run_isAgg a0, run_isAgg a1, o0, o1, Sem.run_bind, run_ckInt h0, run_ckInt h1]
def ckN (P : Program) (K : TypeId) : Bool := match P.underlying K with
  | some (.struct fs) => match fs.toList with
    | [f0, f1] => (match P.underlying f0.type with | some (.int .u32) => true | _ => false) && ((match P.underlying f1.type with | some (.int .i64) => true | _ => false) && (Nat.beq f0.offset 0 && Nat.beq f1.offset 1))
    | _ => false
  | _ => false
theorem ck_netB {P : Program} {K : TypeId} (h : ckN P K = true) (e : Bool) (k : UInt32 × Int) (w : World) : (Instr.checkKey e 10000 K (nmV k)).run P w = .ok () w := by
  unfold ckN at h
  split at h
  · next fs hs =>
    split at h
    · next f0 f1 hf =>
      simp only [Bool.and_eq_true] at h
      obtain ⟨h0, h1, o0, o1⟩ := h
      have hfs : fs = #[f0, f1] := by
        have := congrArg List.toArray hf
        simpa using this
      subst hfs
      split at h0
      · next u0 =>
        split at h1
        · next u1 => exact ck_net hs u0 u1 (Nat.eq_of_beq_eq_true o0) (Nat.eq_of_beq_eq_true o1) (by unfold aggOf; rw [u0]; rfl) (by unfold aggOf; rw [u1]; rfl) e k w
        · cases h1
      · cases h0
    · cases h
  · cases h
section
variable {P : Program} {T K V : TypeId} {w : World}
theorem run_eqNet (M : MapT P T K V) (k k' : UInt32 × Int) (w : World) : (Op.equal K (nmV k) (nmV k')).run P w = .ok (decide (k = k')) w := by
  have h := flat_run (w := w) 20 M.fl 10000 (by omega) (us := [.int .u32 (k.1.toNat : Int), .int .i64 k.2]) (vs := [.int .u32 (k'.1.toNat : Int), .int .i64 k'.2]) (a := nmV k) (b := nmV k')
    ⟨rfl, rfl, trivial⟩ ⟨rfl, rfl, trivial⟩ (by unfold IsPk; rw [M.ag]; rfl) (by unfold IsPk; rw [M.ag]; rfl)
  rw [show Op.equal K (nmV k) (nmV k') = Op.equalIn 10000 K (nmV k) (nmV k') from rfl, h]
  congr 1
  obtain ⟨a, b⟩ := k
  obtain ⟨c, d⟩ := k'
  simp only [eqCells, eqCell, Bool.and_true]
  rw [Bool.eq_iff_iff]
  simp only [Bool.and_eq_true, beq_iff_eq, decide_eq_true_eq, Prod.mk.injEq]
  constructor
  · rintro ⟨h1, h2⟩; exact ⟨UInt32.toNat_inj.1 (by omega), h2⟩
  · rintro ⟨h1, h2⟩; exact ⟨by rw [h1], h2⟩
theorem run_findAsking (M : MapT P T K V) (k : UInt32 × Int) (w : World) : ∀ (es : NetMap) (b i : Nat), (Instr.findAsking K (nmV k) (mpEnt b es) i).run P w = .ok ((mpIdx k es).map fun p => (i + p.1, Value.string ⟨⟨p.2⟩⟩)) w
  | [], b, i => rfl
  | e :: es, b, i => by
    unfold mpEnt Instr.findAsking
    rw [Sem.run_bind, run_eqNet M]
    simp only [Result.andThen_ok]
    by_cases h : k = e.1
    · simp [h, mpIdx]
    · have ih := run_findAsking M k w es (b + 1) (i + 1)
      simp only [h, decide_false, Bool.false_eq_true, if_false, ih, mpIdx, Option.map_map]
      congr 2
      funext p
      simp only [Function.comp]
      rw [show i + 1 + p.1 = i + (p.1 + 1) from by omega]
theorem run_findNet (M : MapT P T K V) (k : UInt32 × Int) (w : World) (es : NetMap) : (Instr.findKey K (nmV k) (mpEnt 0 es)).run P w = .ok ((mpIdx k es).map fun p => (p.1, Value.string ⟨⟨p.2⟩⟩)) w := by
  rw [run_findKey_eq w M.wide, run_findAsking M k w es 0 0]
  simp
theorem run_lookupNet (M : MapT P T K V) {b : Nat} {es : NetMap} (hb : w.heap[b]? = some (mpObj es)) (k : UInt32 × Int) (ok : Bool) :
    (Instr.lookup T (.map (some b)) (nmV k) ok).run P w = .ok (if ok then .tuple #[.string ⟨⟨mpVal k es⟩⟩, .bool (mpHas k es)] else .string ⟨⟨mpVal k es⟩⟩) w := by
  unfold mpObj at hb
  simp only [Instr.lookup, Sem.run_bind, run_underlying M.u, Result.andThen_ok, getObj, Sem.run, hb, Result.andThen, Sem.run_pure, M.ck, run_findNet M]
  unfold mpVal mpHas
  cases hi : mpIdx k es with
  | none => simp [M.zv, Sem.run_bind]
  | some p => simp
theorem run_sameBits (k : UInt32 × Int) : Instr.sameBits 10000 (nmV k) (nmV k) = true := by
  simp [nmV, Instr.sameBits]
theorem run_updateNet (M : MapT P T K V) {b : Nat} {es : NetMap} (hb : w.heap[b]? = some (mpObj es)) (k : UInt32 × Int) (v : List UInt8) :
    (Instr.mapUpdate T (.map (some b)) (nmV k) (.string ⟨⟨v⟩⟩)).run P w = .ok () (setBlock w b (mpObj (mpPut k v es))) := by
  have hb' := hb
  unfold mpObj at hb'
  simp only [Instr.mapUpdate, Sem.run_bind, run_underlying M.u, Result.andThen_ok, getObj, Sem.run, hb', Result.andThen, Sem.run_pure, M.ck, run_findNet M]
  unfold mpPut
  cases hi : mpIdx k es with
  | none =>
    simp only [Option.map_none]
    simp only [setObj, Sem.run, hb', setBlock, mpObj]
    congr 3
    simp [mpEnt_snoc]
  | some p =>
    have hp := mpIdx_at hi
    have hlt : p.1 < es.length := (List.getElem?_eq_some_iff.1 hp).1
    have hge : (mpEnt 0 es)[p.1]? = some { key := nmV k, val := .string ⟨⟨p.2⟩⟩, born := p.1 } := by rw [mpEnt_get, hp]; simp
    simp only [Option.map_some, List.getElem?_toArray, hge, Option.getD_some, Instr.keyThatStays, run_sameBits, if_true, pure_bind, Sem.run_bind, Sem.run_pure, Result.andThen_ok]
    simp only [setObj, Sem.run, hb', setBlock, mpObj, List.length_set]
    congr 4
    apply Array.ext'
    apply List.ext_getElem?
    intro j
    rw [mpEnt_get]
    simp only [Array.toList_modify, List.getElem?_modify, mpEnt_get, List.getElem?_set]
    by_cases hj : p.1 = j
    · subst hj
      simp [hp, hlt]
    · simp [hj]
end
section
variable {E : Env} {kp : List Nat} {φ : Ghost} {Pub : Nat → Nat → Prop} {h : List (Nat × OB)} {w : World}
theorem heap_setBlk_other (w : World) (b : Nat) (o : Obj) (k : Nat) (hk : k ≠ b) : (setBlock w b o).heap[k]? = w.heap[k]? := by
  show (w.heap.setIfInBounds b o)[k]? = _
  simp [Ne.symm hk]
theorem heap_setBlk_same {w : World} {b : Nat} {o : Obj} (hb : b < w.heap.size) : (setBlock w b o).heap[b]? = some o := by
  show (w.heap.setIfInBounds b o)[b]? = _
  simp [hb]
theorem size_setBlk (w : World) (b : Nat) (o : Obj) : (setBlock w b o).heap.size = w.heap.size := by
  show (w.heap.setIfInBounds b o).size = _
  simp
theorem cell_setBlk_other (w : World) (b : Nat) (o : Obj) (k i : Nat) (hk : k ≠ b) : (setBlock w b o).cell? ⟨k, i, none⟩ = w.cell? ⟨k, i, none⟩ := by
  simp only [World.cell?, heap_setBlk_other w b o k hk]
theorem adv_setBlk {b : Nat} {o : Obj} (hp : ∀ i, ¬ Pub b i) : Adv w Pub (setBlock w b o) Pub := fun k i hk =>
  ⟨hk, cell_setBlk_other w b o k i (fun e => hp i (e ▸ hk))⟩
/-- A block of the call's own, which is no row of cells, is changed. -/
theorem Inv.setBlk (I : Inv E kp φ Pub h w) {r b c : Nat} {o' : Obj} {ob : OB} (ha : (look OB.dead h r).alive = true) (hr : φ r = some (b, c)) (hp : ∀ i, ¬ Pub b i) (hob : Hp (setBlock w b o') Pub φ r ob) :
    Inv E kp φ Pub ((r, ob) :: h) (setBlock w b o') := by
  have H := adv_setBlk (w := w) (o := o') hp
  have hm := I.mine r b c ha hr
  refine I.next rfl rfl rfl (by rw [size_setBlk]; exact Nat.le_refl _) (fun k hk hA => heap_setBlk_other w b o' k (fun e => by
      subst e
      rcases hm with hm | hm
      · omega
      · exact hA hm)) H (fun _ _ hp => .inl hp) (fun k i hk => by rw [size_setBlk]; exact I.publ k i hk) (fun q hq => ?_) (fun q k c' hq hk => ?_) (fun q q' k c1 c2 hq hq' hk hk' => ?_) (fun _ _ => rfl)
  · rw [look_cons] at hq ⊢
    split
    · next e => subst e; exact hob
    · next e =>
      rw [if_neg e] at hq
      refine Hp_keep H (fun k c' hk => ⟨heap_setBlk_other w b o' k (fun e2 => ?_), fun i hi => hi⟩) rfl (fun _ _ => rfl) (I.own q)
      subst e2
      exact e (I.inj r q _ _ _ ha hq hr hk)
  · rw [look_cons] at hq
    by_cases e : r = q
    · subst e; exact I.mine r k c' ha hk
    · rw [if_neg e] at hq; exact I.mine q k c' hq hk
  · have hx : ∀ z, (look OB.dead ((r, ob) :: h) z).alive = true → (look OB.dead h z).alive = true := fun z hz => by
      rw [look_cons] at hz
      by_cases e : r = z
      · subst e; exact ha
      · rw [if_neg e] at hz; exact hz
    exact I.inj q q' k c1 c2 (hx q hq) (hx q' hq') hk hk'
end
section
variable {P : Program} {E : Env} {kp : List Nat} {n : Nat} {ops : Array Oper} {st : AS} {d : Nat} {ty : TypeId} {ps : String} {af : Array Edge} {T K V : TypeId}
abbrev mapB (es : NetMap) : OB := .obj (fun o => o = mpObj es)
abbrev nmA (k : UInt32 × Int) : AV := .agg [.p (.v (.int .u32 (k.1.toNat : Int))), .p (.v (.int .i64 k.2))]
theorem nmA_R {w : World} {Pub : Nat → Nat → Prop} {φ : Ghost} {k : UInt32 × Int} {u : Value} (h : RA w Pub φ (nmA k) u) : u = nmV k := by
  unfold RA at h
  obtain ⟨vs, e, h⟩ := h
  unfold RAs at h
  obtain ⟨u0, us, rfl, h0, h⟩ := h
  unfold RAs at h
  obtain ⟨u1, us, rfl, h1, h⟩ := h
  unfold RAs at h
  subst h
  unfold RA RP at h0 h1
  subst h0 h1
  exact e
theorem nmA_V {w : World} {Pub : Nat → Nat → Prop} {φ : Ghost} (k : UInt32 × Int) : RA w Pub φ (nmA k) (nmV k) := by
  unfold RA
  refine ⟨_, rfl, ?_⟩
  unfold RAs
  refine ⟨_, _, rfl, by unfold RA RP; rfl, ?_⟩
  unfold RAs
  refine ⟨_, _, rfl, by unfold RA RP; rfl, ?_⟩
  unfold RAs; rfl
theorem S_makeMap (r : Nat) (hf : st.free kp r = true) (hd : Nat.blt d n = true) :
    Step P E kp n ops ⟨some d, .makeMap T none, ty, ps, af, none⟩ st ⟨(d, .mref r) :: st.slots, (r, mapB []) :: st.heap⟩ := by
  refine Step.val rfl fun a w ⟨φ, Pub, I, h0, hn, hs⟩ => ?_
  obtain ⟨f1, f2, f3, f4⟩ := free_split hf
  have I' := I.alloc f1 f2 f4 (.map #[] 0) 1 (ob := mapB []) ⟨w.heap.size, _, if_pos rfl, heap_alloc_new w _, rfl, fun i hp => by have := I.publ _ _ hp; omega⟩
  refine ⟨.map (some w.heap.size), w.alloc (.map #[] 0), ?_, Sat.put I' h0 hn (fun s => RA_alloc I (look_sHas f3) 1 (hs s)) hd (by unfold RA; exact ⟨_, if_pos rfl, rfl⟩)⟩
  simp [execOp, Instr.makeMap, newObj, Sem.run]
theorem map_at {w : World} {Pub : Nat → Nat → Prop} {φ : Ghost} {r : Nat} {es : NetMap} {u : Value} (I : Inv E kp φ Pub st.heap w) (hl : st.ob r = mapB es) (hu : RA w Pub φ (.mref r) u) :
    ∃ b, φ r = some (b, 1) ∧ u = .map (some b) ∧ w.heap[b]? = some (mpObj es) ∧ ∀ i, ¬ Pub b i := by
  unfold RA at hu
  obtain ⟨b, h1, h2⟩ := hu
  have k := I.own r
  rw [show look OB.dead st.heap r = mapB es from hl] at k
  obtain ⟨b', o, k1, k2, k3, k4⟩ := k
  rw [h1] at k1; cases k1
  exact ⟨b, h1, h2, by rw [k2, k3], k4⟩
theorem S_mapUpdate (M : MapT P T K V) {m x y : Operand} {r : Nat} {es : NetMap} {k : UInt32 × Int} {v : List UInt8} (hm : Gv (st.ev m) (.mref r)) (hl : st.ob r = mapB es) (hx : Gv (st.ev x) (nmA k)) (hy : Gv (st.ev y) (.p (.v (.string ⟨⟨v⟩⟩)))) :
    Step P E kp n ops ⟨none, .mapUpdate T m x y, ty, ps, af, none⟩ st (st.set r (mapB (mpPut k v es))) := by
  refine Step.skip rfl fun a w ⟨φ, Pub, I, h0, hn, hs⟩ => ?_
  obtain ⟨b, e1, e2, e3, e4⟩ := map_at I hl (hm _ _ _ _ (ev_R (h := st.heap) hs m))
  have e5 := nmA_R (hx _ _ _ _ (ev_R (h := st.heap) hs x))
  have e6 := hy.v (ev_R (h := st.heap) hs y)
  have hlt : b < w.heap.size := (Array.getElem?_eq_some_iff.1 e3).1
  refine ⟨setBlock w b (mpObj (mpPut k v es)), ?_, φ, Pub, I.setBlk (by rw [show look OB.dead st.heap r = mapB es from hl]; rfl) e1 e4 ⟨b, _, e1, heap_setBlk_same hlt, rfl, e4⟩, h0, hn, fun s => RA_mono (adv_setBlk e4) _ _ (fun _ _ => rfl) (hs s)⟩
  simp [execOp, e2, e5, e6, run_updateNet M e3]
theorem S_lookup (M : MapT P T K V) {m x : Operand} {r : Nat} {es : NetMap} {k : UInt32 × Int} (hm : Gv (st.ev m) (.mref r)) (hl : st.ob r = mapB es) (hx : Gv (st.ev x) (nmA k)) (hd : Nat.blt d n = true) :
    Step P E kp n ops ⟨some d, .lookup T m x false, ty, ps, af, none⟩ st (st.put d (.p (.v (.string ⟨⟨mpVal k es⟩⟩)))) :=
  S_pure _ rfl rfl hd fun a w φ Pub I hR => by
    obtain ⟨b, e1, e2, e3, e4⟩ := map_at I hl (hm _ _ _ _ (hR m))
    have e5 := nmA_R (hx _ _ _ _ (hR x))
    exact ⟨.string ⟨⟨mpVal k es⟩⟩, by simp [execOp, e2, e5, run_lookupNet M e3], by unfold RA RP; rfl⟩
theorem S_lookupOk (M : MapT P T K V) {m x : Operand} {r : Nat} {es : NetMap} {k : UInt32 × Int} (hm : Gv (st.ev m) (.mref r)) (hl : st.ob r = mapB es) (hx : Gv (st.ev x) (nmA k)) (hd : Nat.blt d n = true) :
    Step P E kp n ops ⟨some d, .lookup T m x true, ty, ps, af, none⟩ st (st.put d (.tup [.p (.v (.string ⟨⟨mpVal k es⟩⟩)), .p (.v (.bool (mpHas k es)))])) :=
  S_pure _ rfl rfl hd fun a w φ Pub I hR => by
    obtain ⟨b, e1, e2, e3, e4⟩ := map_at I hl (hm _ _ _ _ (hR m))
    have e5 := nmA_R (hx _ _ _ _ (hR x))
    refine ⟨.tuple #[.string ⟨⟨mpVal k es⟩⟩, .bool (mpHas k es)], by simp [execOp, e2, e5, run_lookupNet M e3], ?_⟩
    unfold RA
    refine ⟨_, rfl, ?_⟩
    unfold RAs
    refine ⟨_, _, rfl, by unfold RA RP; rfl, ?_⟩
    unfold RAs
    refine ⟨_, _, rfl, by unfold RA RP; rfl, ?_⟩
    unfold RAs; rfl
theorem S_lenMap (hu : P.underlying T = some (.map K V)) {m : Operand} {r : Nat} {es : NetMap} (hm : Gv (st.ev m) (.mref r)) (hl : st.ob r = mapB es) (hd : Nat.blt d n = true) :
    Step P E kp n ops ⟨some d, .call { callee := .builtin .len, args := #[m], argTypes := #[T] }, ty, ps, af, none⟩ st (st.put d (.p (.v (.int .i64 (es.length : Int))))) :=
  S_pure _ rfl rfl hd fun a w φ Pub I hR => by
    obtain ⟨b, e1, e2, e3, e4⟩ := map_at I hl (hm _ _ _ _ (hR m))
    refine ⟨.int .i64 (es.length : Int), ?_, by unfold RA RP; rfl⟩
    unfold mpObj at e3
    have e6 : (mpEnt 0 es).length = es.length := mpEnt_len es 0
    simp [execOp, resolve, invoke, builtin, Builtin.len_, run_underlying hu, e2, getObj, Sem.run, e3, Result.andThen, goInt, Sem.run_bind, e6]
theorem S_range (hu : P.underlying T = some (.map K V)) (r : Nat) {m : Operand} {q : Nat} {es : NetMap} (hm : Gv (st.ev m) (.mref q)) (hl : st.ob q = mapB es) (hf : st.free kp r = true) (hd : Nat.blt d n = true) :
    Step P E kp n ops ⟨some d, .range T m, ty, ps, af, none⟩ st ⟨(d, .own r 0) :: st.slots, (r, .it q es.length #[] es.length) :: st.heap⟩ := by
  refine Step.val rfl fun a w ⟨φ, Pub, I, h0, hn, hs⟩ => ?_
  obtain ⟨f1, f2, f3, f4⟩ := free_split hf
  obtain ⟨b, e1, e2, e3, e4⟩ := map_at I hl (hm _ _ _ _ (ev_R (h := st.heap) hs m))
  have hne : q ≠ r := fun e => by
    subst e
    have : (look OB.dead st.heap q).alive = true := by rw [show look OB.dead st.heap q = mapB es from hl]; rfl
    rw [this] at f1; cases f1
  have I' := I.alloc f1 f2 f4 (.mapIter (some b) es.length #[] es.length) 1 (ob := .it q es.length #[] es.length) ⟨w.heap.size, b, if_pos rfl, (if_neg hne).trans e1, heap_alloc_new w _, fun i hp => by have := I.publ _ _ hp; omega⟩
  refine ⟨.pointer (some ⟨w.heap.size, 0, none⟩), w.alloc (.mapIter (some b) es.length #[] es.length), ?_, Sat.put I' h0 hn (fun s => RA_alloc I (look_sHas f3) 1 (hs s)) hd (by unfold RA; exact ⟨_, _, if_pos rfl, rfl⟩)⟩
  unfold mpObj at e3
  simp [execOp, Instr.range, run_underlying hu, e2, getObj, Sem.run, e3, Result.andThen, Sem.run_bind, newObj]
theorem mpEnt_nodup (es : NetMap) : (((mpEnt 0 es).toArray.toList).map (·.born)).Nodup := by
  have : ∀ (es : NetMap) (i : Nat), (mpEnt i es).map (·.born) = (List.range es.length).map (i + ·) := by
    intro es
    induction es with
    | nil => intro i; rfl
    | cons e es ih =>
      intro i
      simp only [mpEnt, List.map_cons, ih (i + 1), List.length_cons, List.range_succ_eq_map, List.map_cons, Nat.add_zero, List.map_map]
      congr 1
      apply List.map_congr_left
      intro j _
      simp only [Function.comp]; omega
  rw [this es 0]
  simp [List.nodup_range]
theorem it_at {w : World} {Pub : Nat → Nat → Prop} {φ : Ghost} {r q since last : Nat} {seen : Array Nat} {es : NetMap} {u : Value} (I : Inv E kp φ Pub st.heap w) (hl : st.ob r = .it q since seen last) (hq : st.ob q = mapB es) (hu : RA w Pub φ (.own r 0) u) :
    ∃ b bm, φ r = some (b, 1) ∧ u = .pointer (some ⟨b, 0, none⟩) ∧ w.heap[b]? = some (.mapIter (some bm) since seen last) ∧ φ q = some (bm, 1) ∧ w.heap[bm]? = some (mpObj es) ∧ ∀ i, ¬ Pub b i := by
  unfold RA at hu
  obtain ⟨b, c, h1, h2⟩ := hu
  have k := I.own r
  rw [show look OB.dead st.heap r = .it q since seen last from hl] at k
  obtain ⟨b', bm, k1, k0, k2, k4⟩ := k
  rw [h1] at k1; cases k1
  have kq := I.own q
  rw [show look OB.dead st.heap q = mapB es from hq] at kq
  obtain ⟨bm', o, j1, j2, j3, j4⟩ := kq
  rw [k0] at j1; cases j1
  exact ⟨b, bm, h1, h2, k2, k0, by rw [j2, j3], k4⟩
theorem S_entry {x : Operand} {r q i : Nat} {s : List Nat} {es : NetMap} {e : (UInt32 × Int) × List UInt8} (hx : Gv (st.ev x) (.own r 0)) (hl : st.ob r = .it q es.length (i :: s).reverse.toArray es.length) (hq : st.ob q = mapB es) (hi : es[i]? = some e) (hd : Nat.blt d n = true) :
    Step P E kp n ops ⟨some d, .entry x, ty, ps, af, none⟩ st (st.put d (.tup [nmA e.1, .p (.v (.string ⟨⟨e.2⟩⟩))])) :=
  S_pure _ rfl rfl hd fun a w φ Pub I hR => by
    obtain ⟨b, bm, e1, e2, e3, e4, e5, e6⟩ := it_at I hl hq (hx _ _ _ _ (hR x))
    have hs : (i :: s).reverse.toArray = s.reverse.toArray.push i := by simp
    rw [hs] at e3
    have hge : (mpEnt 0 es)[i]? = some { key := nmV e.1, val := .string ⟨⟨e.2⟩⟩, born := i } := by rw [mpEnt_get, hi]; simp
    have hr := run_entry_at (P := P) w b bm es.length s.reverse.toArray (mpEnt 0 es).toArray es.length { key := nmV e.1, val := .string ⟨⟨e.2⟩⟩, born := i } e3 e5 (List.mem_of_getElem? hge) (mpEnt_nodup es)
    refine ⟨.tuple #[nmV e.1, .string ⟨⟨e.2⟩⟩], by simp [execOp, e2, hr], ?_⟩
    unfold RA
    refine ⟨_, rfl, ?_⟩
    unfold RAs
    refine ⟨_, _, rfl, nmA_V _, ?_⟩
    unfold RAs
    refine ⟨_, _, rfl, by unfold RA RP; rfl, ?_⟩
    unfold RAs; rfl
/-- The next entry, whichever it is; or none is left. -/
theorem AO.next {Q : Exit → Act → World → Prop} {x : Operand} {r q : Nat} {s : List Nat} {es : NetMap} {rest : List Oper} (hx : Gv (st.ev x) (.own r 0)) (hl : st.ob r = .it q es.length s.reverse.toArray es.length) (hq : st.ob q = mapB es) (hd : Nat.blt d n = true)
    (h1 : ∀ i, i < es.length → i ∉ s → AO P E kp n ops Q rest ⟨(d, .tup [.p (.v (.bool true)), .any, .any]) :: st.slots, (r, .it q es.length (i :: s).reverse.toArray es.length) :: st.heap⟩)
    (h2 : (∀ i, i < es.length → i ∈ s) → AO P E kp n ops Q rest (st.put d (.tup [.p (.v (.bool false))]))) :
    AO P E kp n ops Q (⟨some d, .next x false, ty, ps, af, none⟩ :: rest) st := by
  rintro a w ⟨φ, Pub, I, h0, hn, hsl⟩
  obtain ⟨b, bm, e1, e2, e3, e4, e5, e6⟩ := it_at I hl hq (hx _ _ _ _ (ev_R (h := st.heap) hsl x))
  have hmem : ∀ y ∈ (mpEnt 0 es).toArray.toList, ∃ i, i < es.length ∧ y.born = i := fun y hy => by
    obtain ⟨i, hi⟩ := List.getElem?_of_mem hy
    have hi' : (mpEnt 0 es)[i]? = some y := hi
    rw [mpEnt_get] at hi'
    cases hz : es[i]? with
    | none => rw [hz] at hi'; cases hi'
    | some z => rw [hz] at hi'; cases hi'; exact ⟨i, (List.getElem?_eq_some_iff.1 hz).1, by simp⟩
  have hold : ∀ y ∈ (mpEnt 0 es).toArray.toList, y.born < es.length := fun y hy => by obtain ⟨i, h, e⟩ := hmem y hy; omega
  have hnx := run_next_at (P := P) w ty b bm es.length es.length s.reverse.toArray (mpEnt 0 es).toArray es.length e3 e5 hold (Nat.le_refl _)
  refine wpList_plain rfl fun K hK => ?_
  rcases hnx with ⟨g1, g2⟩ | ⟨e, g1, w1, g2, g3⟩
  · have hr : (execOp a.eval ⟨some d, .next x false, ty, ps, af, none⟩).run P w = .ok (.value (.tuple #[.bool false])) w := by simp [execOp, e2, g2]
    unfold Oper.wp; rw [hr]
    refine hK _ _ (h2 (fun i hi => ?_) _ _ (Sat.put I h0 hn hsl hd ?_))
    · cases hz : es[i]? with
      | none => rw [List.getElem?_eq_getElem hi] at hz; cases hz
      | some z =>
        have hge : (mpEnt 0 es)[i]? = some { key := nmV z.1, val := .string ⟨⟨z.2⟩⟩, born := i } := by rw [mpEnt_get, hz]; simp
        have hm := List.mem_of_getElem? hge
        have hno : ∀ y ∈ (mpEnt 0 es).toArray, s.reverse.toArray.contains y.born = true := by
          intro y hy
          have h3 := Array.size_eq_zero_iff.1 g1
          unfold leftOf at h3
          rw [Array.filter_eq_empty_iff] at h3
          have := h3 y hy
          simpa using this
        have := hno _ (by simpa using hm)
        simpa using this
    · unfold RA
      refine ⟨_, rfl, ?_⟩
      unfold RAs
      refine ⟨_, _, rfl, by unfold RA RP; rfl, ?_⟩
      unfold RAs; rfl
  · have hr : (execOp a.eval ⟨some d, .next x false, ty, ps, af, none⟩).run P w = .ok (.value (.tuple #[.bool true, e.key, e.val])) (setBlock w1 b (.mapIter (some bm) es.length (s.reverse.toArray.push e.born) es.length)) := by simp [execOp, e2, g3]
    unfold Oper.wp; rw [hr]
    have hme : e ∈ (mpEnt 0 es).toArray.toList ∧ s.reverse.toArray.contains e.born = false := by
      unfold leftOf at g1
      simpa using g1
    obtain ⟨i, hi, hb⟩ := hmem e hme.1
    have hns : i ∉ s := by have := hme.2; rw [hb] at this; simpa using this
    have I1 : Inv E kp φ Pub st.heap w1 := by rcases g2 with rfl | rfl; exact I; exact I.drew
    have H1 : Adv w Pub w1 Pub := by rcases g2 with rfl | rfl; exact Adv.refl _ _; exact adv_drew
    have hb1 : w1.heap[b]? = some (.mapIter (some bm) es.length s.reverse.toArray es.length) := by rcases g2 with rfl | rfl <;> exact e3
    have hlt : b < w1.heap.size := (Array.getElem?_eq_some_iff.1 hb1).1
    have hpush : s.reverse.toArray.push e.born = (i :: s).reverse.toArray := by rw [hb]; simp
    rw [hpush]
    have I2 := I1.setBlk (o' := .mapIter (some bm) es.length (i :: s).reverse.toArray es.length) (ob := .it q es.length (i :: s).reverse.toArray es.length) (by rw [show look OB.dead st.heap r = _ from hl]; rfl) e1 e6 ⟨b, bm, e1, e4, heap_setBlk_same hlt, e6⟩
    refine hK _ _ (h1 i hi hns _ _ (Sat.put I2 h0 hn (fun z => RA_mono (H1.trans (adv_setBlk e6)) _ _ (fun _ _ => rfl) (hsl z)) hd ?_))
    unfold RA
    refine ⟨_, rfl, ?_⟩
    unfold RAs
    refine ⟨_, _, rfl, by unfold RA RP; rfl, ?_⟩
    unfold RAs
    refine ⟨_, _, rfl, by unfold RA; trivial, ?_⟩
    unfold RAs
    refine ⟨_, _, rfl, by unfold RA; trivial, ?_⟩
    unfold RAs; rfl
end
end Go.Proofs.YtcebndkiagbddaaDoor
