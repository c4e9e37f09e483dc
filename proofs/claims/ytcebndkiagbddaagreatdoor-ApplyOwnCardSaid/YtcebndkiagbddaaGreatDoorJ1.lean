/- Part 1 of the proof: its texts one behind the other. -/
import Derived.WalkKit
import Derived.WalkSpells
import Derived.WalkLawsBesides
import Derived.Deep.QuietTactic
import Derived.BigQuiet
import Derived.Deep.RegionHeld3
import Derived.Lib.Hide
import Derived.Laws.StructEq
import Derived.Laws.Pointers
import Derived.Maps.RangeRun
import Derived.Test.YtcebndkiagbddaaGreatDoorJ0
namespace Go.Proofs.YtcebndkiagbddaaGreatDoor
open Go.RowKit
set_option linter.unusedVariables false
set_option linter.unusedSimpArgs false

/-- A callee that leaves the world alone, met in a region that draws. -/
theorem quiet_same {P : Program} {f : FuncId} {args : Array Value} {w : World} {n : Nat} {v : Value}
    (h : Calls P f args (w.drewN n) fun e w' => e = .returned v ∧ w.drewN n = w') : Calls P f args (w.drewN n) fun e w'' => e = .returned v ∧ ∃ m, w'' = w.drewN m :=
  h.mono fun _ _ ⟨he, hm⟩ => ⟨he, n, hm.symm⟩
theorem ret_int {k : IntKind} {a b : Int} (h : a = b) : Ending.returned (.int k a) = .returned (.int k b) := by rw [h]
theorem below_drewN {B : Nat} {a w : World} (h : Below B a w) (n : Nat) : Below B a (w.drewN n) := ⟨h.os, h.tape, h.output, h.size, h.block⟩
section
variable {P : Program} {md : Region.Mode} {ops : Array Oper} {Q : Exit → Act → World → Prop} {S : World → Prop}
/-- One operation of a region that draws, taken first: it yields one value in every world that meets S. -/
theorem H_take {i : Nat} {oi : Oper} {fuel : Nat} {listed : Array Bool} {a : Act} {w : World} (hi : ops[i]? = some oi)
    (hs : Region.noSelect ops = true) (hf : Region.free md ops listed i = true) (hr : (Region.ready md ops listed).contains i = true)
    (hQ : ∀ v c a w, Q (.panic c) (a.put oi.dst v) w → Q (.panic c) a w) (hS : S w) (hw : Region.wanted oi (yielded ops a.tmps) = true)
    (h : ∃ v, (∀ w, S w → (execOp a.eval oi).run P w = .ok (.value v) w) ∧ wpAnyH P md ops Q S fuel (listed.setIfInBounds i true) (a.put oi.dst v) w) : wpAnyH P md ops Q S (fuel + 1) listed a w :=
  let ⟨v, h1, h2⟩ := h
  wpAnyH_take (v := v) hi hs hf hr (hQ v) (.inl ⟨hw, h1⟩) hS h2
/-- The one that alone may come up. -/
theorem H_one {i : Nat} {o : Oper} {fuel : Nat} {listed : Array Bool} {a : Act} {w : World} (hr : Region.ready md ops listed = [i]) (hi : ops[i]? = some o)
    (h : ∀ K' : Act → World → Prop, Shut (∀ a w, S w → (S w → wpAnyH P md ops Q S fuel (listed.setIfInBounds i true) a w) → K' a w) → if Region.wanted o (yielded ops a.tmps) = true then Oper.wp P o a w K' Q else K' (a.put o.dst undef) w) :
    wpAnyH P md ops Q S (fuel + 1) listed a w :=
  wpAnyH_ready hr (by simp) (AllReadyH.cons hi h AllReadyH.nil)
end
/-- A cell that was there when a class of worlds began is there in each of them. -/
theorem keeps {w0 w2 : World} (h : Below w0.heap.size w0 w2) {p : Addr} {v : Value} (hc : w0.cell? p = some v) : w2.cell? p = some v := by
  rw [h.cell (World.block_lt_of_cell? w0 p hc)]; exact hc
theorem keepsF {w0 w2 : World} (h : Below w0.heap.size w0 w2) {p : Addr} {b : Bool} (hl : p.block < w0.heap.size) (hc : w0.frozen? p = b) : w2.frozen? p = b := by
  rw [h.frozen hl]; exact hc
theorem below_step {w0 w1 w2 : World} (h : Below w0.heap.size w0 w1) (k : Below w1.heap.size w1 w2) : Below w0.heap.size w0 w2 := h.trans (k.mono h.size)
theorem below_undrew {w w1 : World} (h : Below w.drew.heap.size w.drew w1) : Below w.heap.size w w1 := ⟨h.os, h.tape, h.output, h.size, h.block⟩
/-- The class for a region that ends in a store into a result's own block (from RB on). -/
theorem undr {RB : Nat} {w0 w' : World} (h : Below RB w0 w') : Below RB w0 w' ∧ ∀ b o, b < RB → w'.cell? ⟨b, o, none⟩ = w0.cell? ⟨b, o, none⟩ :=
  ⟨h, fun b o hb => h.cell (p := ⟨b, o, none⟩) hb⟩
theorem undr_step {RB : Nat} {w0 w1 w2 : World} (hRB : RB ≤ w0.heap.size) (h : Below RB w0 w1) (k : Below w1.heap.size w1 w2) : Below RB w0 w2 := h.trans (k.mono (Nat.le_trans hRB h.size))
/-- A variable of the call's own, made behind block B: what it holds. -/
def Fresh (B : Nat) (w : World) (v : Value) (cs : List Value) : Prop :=
  ∃ b, v = .pointer (some ⟨b, 0, none⟩) ∧ B ≤ b ∧ b < w.heap.size ∧ (∀ i u, cs[i]? = some u → w.cell? ⟨b, i, none⟩ = some u) ∧ ∀ o, w.frozen? ⟨b, o, none⟩ = false
theorem Fresh.below {B : Nat} {w w' : World} {v : Value} {cs : List Value} (h : Fresh B w v cs) (k : Below w.heap.size w w') : Fresh B w' v cs :=
  let ⟨b, h1, h2, h3, h4, h5⟩ := h
  ⟨b, h1, h2, Nat.lt_of_lt_of_le h3 k.size, fun i u hu => by rw [k.cell (p := ⟨b, i, none⟩) h3]; exact h4 i u hu, fun o => by rw [k.frozen (p := ⟨b, o, none⟩) h3]; exact h5 o⟩
theorem below_alloc (w : World) (o : Obj) : Below w.heap.size w (w.alloc o) := (Below.refl _ _).alloc (Nat.le_refl _) _
theorem cell_at {w : World} {c : Array Value} {t : TypeId} {n : Nat} (hn : n = w.heap.size) (i : Nat) {v : Value} (h : c[i]? = some v) : (w.alloc (.cells c t)).cell? ⟨n, i, none⟩ = some v := by
  subst hn; rw [World.cell?_alloc_new]; exact h
theorem cell_up {w : World} {o : Obj} {p : Addr} {v : Value} (h : w.cell? p = some v) : (w.alloc o).cell? p = some v := keeps (below_alloc w o) h
theorem froz_at {w : World} {c : Array Value} {t : TypeId} {n : Nat} (hn : n = w.heap.size) (i : Nat) : (w.alloc (.cells c t)).frozen? ⟨n, i, none⟩ = false := by
  subst hn; simp
theorem froz_up {w : World} {o : Obj} {p : Addr} {b : Bool} (hl : p.block < w.heap.size) (h : w.frozen? p = b) : (w.alloc o).frozen? p = b := keepsF (below_alloc w o) hl h
end Go.Proofs.YtcebndkiagbddaaGreatDoor

/- A region that draws its order and holds operations that float (an alloc beside calls): one condition on the frame and the world, kept by each operation, serves every order. It names no function of the program. -/
namespace Go.Proofs.YtcebndkiagbddaaGreatDoor
open Go.RowKit
set_option linter.unusedVariables false
set_option linter.unusedSimpArgs false

/-- What an operation hangs on, directly. -/
def depsOf (ops : Array Oper) (i : Nat) : List Nat := ((ops[i]?).map fun o => (o.after.toList.filter fun e => Region.binds .any e).map (·.on)).getD []
def closeStep (ops : Array Oper) (s : List Nat) : List Nat := (List.range ops.size).filter fun j => s.contains j || s.any fun k => (depsOf ops k).contains j
def closeN (ops : Array Oper) : Nat → List Nat → List Nat
  | 0, s => s
  | n + 1, s => closeN ops n (closeStep ops s)
/-- The first m operations hang on earlier ones alone; each later one comes behind all of the first m. -/
def floatB (ops : Array Oper) (m : Nat) : Bool :=
  (List.range m).all (fun i => ((ops[i]?).map fun o => o.after.all fun e => !Region.binds .any e || decide (e.on < i)).getD false) &&
  (List.range ops.size).all (fun i => decide (i < m) || (List.range m).all fun j => (closeN ops m (depsOf ops i)).contains j)
theorem closeN_listed {ops : Array Oper} {L : Array Bool} (hdc : ∀ i, L.getD i false = true → ∀ j ∈ depsOf ops i, L.getD j false = true) :
    ∀ (n : Nat) (s : List Nat), (∀ j ∈ s, L.getD j false = true) → ∀ j ∈ closeN ops n s, L.getD j false = true
  | 0, _, h => h
  | n + 1, s, h => closeN_listed hdc n _ fun j hj => by
    unfold closeStep at hj
    rw [List.mem_filter] at hj
    have hj := hj.2
    rw [Bool.or_eq_true, List.any_eq_true] at hj
    rcases hj with hj | ⟨k, hk, hj⟩
    · exact h j (List.contains_iff_mem.1 hj)
    · exact hdc k (h k hk) j (List.contains_iff_mem.1 hj)
def firstM (n m : Nat) : Array Bool := (Array.range n).map (fun i => decide (i < m))
def unlisted (L : Array Bool) (m : Nat) : Nat := ((List.range m).filter fun i => !L.getD i true).length

theorem unlisted_set (L : Array Bool) (m i : Nat) (hi : i < m) (hs : i < L.size) (hL : L.getD i true = false) : unlisted (L.setIfInBounds i true) m + 1 = unlisted L m := by
  unfold unlisted
  have e : ∀ j, (L.setIfInBounds i true).getD j true = (if i = j then true else L.getD j true) := fun j => by
    simp only [Array.getD_eq_getD_getElem?, Array.getElem?_setIfInBounds]
    by_cases h : i = j
    · subst h; simp [hs]
    · simp [h]
  simp only [e]
  clear e
  induction m with
  | zero => omega
  | succ m ih =>
    rw [List.range_succ, List.filter_append, List.filter_append, List.length_append, List.length_append]
    by_cases h : i = m
    · subst h
      have : List.filter (fun j => !(if i = j then true else L.getD j true)) (List.range i) = List.filter (fun j => !L.getD j true) (List.range i) := by
        apply List.filter_congr; intro j hj; have := List.mem_range.1 hj; rw [if_neg (by omega)]
      rw [this]; rw [Array.getD_eq_getD_getElem?] at hL; simp [hL]
    · have := ih (by omega)
      rw [← this]; simp [List.filter_cons, h]; omega

section
variable {P : Program} {ops : Array Oper} {Q : Exit → Act → World → Prop} {S : World → Prop}

theorem wpAny_float {m : Nat} (hf : floatB ops m = true) (hm : m ≤ ops.size) (Inv : (Nat → Bool) → Act → World → Prop)
    (step : ∀ (L : Nat → Bool) a w i o (K : Act → World → Prop), i < m → ops[i]? = some o → L i = false → (o.after.all fun e => !Region.binds .any e || L e.on) = true → Inv L a w →
      (∀ a w, Inv (fun j => j == i || L j) a w → K a w) → if Region.wanted o (yielded ops a.tmps) = true then Oper.wp P o a w K Q else K (a.put o.dst undef) w)
    (fin : ∀ L a w, (∀ i, i < m → L i = true) → Inv L a w → wpAny P .any ops Q (ops.size - m) (firstM ops.size m) a w) :
    ∀ (f : Nat) (L : Array Bool) (a : Act) (w : World), L.size = ops.size → (∀ i, m ≤ i → i < ops.size → L.getD i true = false) → (∀ i, L.getD i false = true → ∀ j ∈ depsOf ops i, L.getD j false = true) → unlisted L m = f → Inv (fun i => L.getD i true) a w →
      wpAny P .any ops Q (f + (ops.size - m)) L a w := by
  unfold floatB at hf
  simp only [Bool.and_eq_true, List.all_eq_true, List.mem_range] at hf
  obtain ⟨hlow, hhigh⟩ := hf
  intro f
  induction f with
  | zero =>
    intro L a w hs hh hdc hu hI
    have hall : ∀ i, i < m → L.getD i true = true := by
      intro i hi
      have h0 : (List.range m).filter (fun i => !L.getD i true) = [] := List.length_eq_zero_iff.1 hu
      rw [List.filter_eq_nil_iff] at h0
      simpa using h0 i (List.mem_range.2 hi)
    have hL : L = firstM ops.size m := by
      apply Array.ext
      · simp [firstM, hs]
      · intro i h1 h2
        have hi : i < ops.size := by omega
        simp only [firstM, Array.getElem_map, Array.getElem_range]
        by_cases h : i < m
        · have := hall i h; rw [Array.getD_eq_getD_getElem?, Array.getElem?_eq_getElem h1] at this; simpa [h] using this
        · have := hh i (by omega) hi; rw [Array.getD_eq_getD_getElem?, Array.getElem?_eq_getElem h1] at this; simpa [h] using this
    rw [Nat.zero_add, hL]
    exact fin _ a w hall hI
  | succ f ih =>
    intro L a w hs hh hdc hu hI
    rw [show f + 1 + (ops.size - m) = (f + (ops.size - m)) + 1 from by omega]
    -- somebody is ready
    have hex : ∃ i, i < m ∧ L.getD i true = false := by
      refine Classical.byContradiction fun hn => ?_
      have : (List.range m).filter (fun i => !L.getD i true) = [] := by
        rw [List.filter_eq_nil_iff]; intro i hi
        have hi := List.mem_range.1 hi
        cases h : L.getD i true with
        | true => simp
        | false => exact absurd ⟨i, hi, h⟩ hn
      unfold unlisted at hu; rw [this] at hu; simp at hu
    have hready : Region.ready .any ops L ≠ [] := by
      -- the least one
      have hmin : ∀ n i, i ≤ n → i < m → L.getD i true = false → ∃ k, k < m ∧ L.getD k true = false ∧ ∀ j, j < k → L.getD j true = true := by
        intro n
        induction n with
        | zero => intro i h0 h1 h2; exact ⟨i, h1, h2, fun j hj => by omega⟩
        | succ n ihn =>
          intro i h0 h1 h2
          by_cases hq : ∃ j, j < i ∧ L.getD j true = false
          · obtain ⟨j, hj, hj2⟩ := hq; exact ihn j (by omega) (by omega) hj2
          · refine ⟨i, h1, h2, fun j hj => ?_⟩
            cases h : L.getD j true with
            | true => rfl
            | false => exact absurd ⟨j, hj, h⟩ hq
      obtain ⟨i, hi, hi2⟩ := hex
      obtain ⟨k, hk, hk2, hk3⟩ := hmin i i (Nat.le_refl _) hi hi2
      have : k ∈ Region.ready .any ops L := by
        unfold Region.ready
        rw [List.mem_filter]
        refine ⟨List.mem_range.2 (by omega), ?_⟩
        rw [hk2]
        have h1 := hlow k hk
        cases ho : ops[k]? with
        | none => rw [ho] at h1; simp at h1
        | some o =>
          rw [ho] at h1
          simp only [Option.map_some, Option.getD_some, Bool.not_false, Bool.true_and, Array.all_eq_true] at h1 ⊢
          intro e he
          have h2 := h1 e he
          simp only [Bool.or_eq_true, Bool.not_eq_true', decide_eq_true_eq] at h2 ⊢
          rcases h2 with h2 | h2
          · exact .inl h2
          · refine .inr ?_
            have h3 := hk3 _ h2
            have h4 : (o.after[e]).on < L.size := by omega
            rw [Array.getD_eq_getD_getElem?, Array.getElem?_eq_getElem h4] at h3 ⊢
            simpa using h3
      intro h; rw [h] at this; cases this
    refine ⟨fun h => absurd h hready, fun i hi => ?_⟩
    unfold Region.ready at hi
    rw [List.mem_filter] at hi
    obtain ⟨hi1, hi2⟩ := hi
    have hi1 := List.mem_range.1 hi1
    simp only [Bool.and_eq_true, Bool.not_eq_true'] at hi2
    obtain ⟨hi2, hi3⟩ := hi2
    have hready2 : ∀ j ∈ depsOf ops i, L.getD j false = true := by
      unfold depsOf
      cases ho : ops[i]? with
      | none => simp
      | some o =>
        rw [ho] at hi3
        simp only [Option.map_some, Option.getD_some, Array.all_eq_true, Bool.or_eq_true, Bool.not_eq_true'] at hi3 ⊢
        intro j hj
        rw [List.mem_map] at hj
        obtain ⟨e, he, rfl⟩ := hj
        rw [List.mem_filter] at he
        obtain ⟨x, hx, hx2⟩ := Array.mem_iff_getElem.1 (Array.mem_def.2 he.1)
        rcases hi3 x hx with h2 | h2
        · rw [hx2, he.2] at h2; cases h2
        · rw [hx2] at h2; exact h2
    have him : i < m := by
      refine Classical.byContradiction fun hn => ?_
      obtain ⟨k, hk, hk2⟩ := hex
      have h1 := hhigh i hi1
      simp only [Bool.or_eq_true, decide_eq_true_eq, hn, false_or, List.all_eq_true, List.mem_range] at h1
      have h2 := closeN_listed hdc m (depsOf ops i) hready2 k (List.contains_iff_mem.1 (h1 k hk))
      have h4 : k < L.size := by omega
      rw [Array.getD_eq_getD_getElem?, Array.getElem?_eq_getElem h4] at h2 hk2
      simp at h2 hk2; rw [h2] at hk2; cases hk2
    cases ho : ops[i]? with
    | none => rw [ho] at hi3; simp at hi3
    | some o =>
      refine wpOp_step ho fun K' hK' => ?_
      rw [ho] at hi3
      have hd : (o.after.all fun e => !Region.binds .any e || L.getD e.on true) = true := by
        simp only [Option.map_some, Option.getD_some, Array.all_eq_true, Bool.or_eq_true, Bool.not_eq_true'] at hi3 ⊢
        intro e he
        rcases hi3 e he with h2 | h2
        · exact .inl h2
        · refine .inr ?_
          rw [Array.getD_eq_getD_getElem?] at h2 ⊢
          cases h5 : L[o.after[e].on]? with
          | none => rw [h5] at h2; simp at h2
          | some b => rw [h5] at h2; simpa using h2
      refine step _ a w i o K' him ho hi2 hd hI fun a' w' hI' => hK' a' w' (ih _ a' w' (by simp [hs]) ?_ ?_ ?_ ?_)
      · intro j hj hj2
        rw [Array.getD_eq_getD_getElem?, Array.getElem?_setIfInBounds, if_neg (by omega), ← Array.getD_eq_getD_getElem?]
        exact hh j hj hj2
      · intro k hk j hj
        have hmon : ∀ j, L.getD j false = true → (L.setIfInBounds i true).getD j false = true := fun j h => by
          simp only [Array.getD_eq_getD_getElem?, Array.getElem?_setIfInBounds] at h ⊢
          by_cases h1 : i = j
          · subst h1; simp [show i < L.size by omega]
          · rw [if_neg h1]; exact h
        by_cases h1 : i = k
        · subst h1; exact hmon j (hready2 j hj)
        · refine hmon j (hdc k ?_ j hj)
          simp only [Array.getD_eq_getD_getElem?, Array.getElem?_setIfInBounds, if_neg h1] at hk ⊢; exact hk
      · have := unlisted_set L m i him (by omega) hi2; omega
      · have e : (fun j => (L.setIfInBounds i true).getD j true) = (fun j => j == i || L.getD j true) := by
          funext j
          simp only [Array.getD_eq_getD_getElem?, Array.getElem?_setIfInBounds]
          by_cases h : i = j
          · subst h; simp [show i < L.size by omega]
          · simp [h, Ne.symm h]
        rw [e]; exact hI'

theorem unlisted_none (n m : Nat) (h : m ≤ n) : unlisted (Array.replicate n false) m = m := by
  unfold unlisted
  rw [List.filter_eq_self.2, List.length_range]
  intro i hi
  have := List.mem_range.1 hi
  rw [Array.getD_eq_getD_getElem?, Array.getElem?_replicate, if_pos (by omega)]; rfl

end
end Go.Proofs.YtcebndkiagbddaaGreatDoor

/- A region that draws its order, over values without addresses: its operations make slots and new blocks; what each makes is the same in whatever order. It names no function of the program. -/
namespace Go.Proofs.YtcebndkiagbddaaGreatDoor
open Go.RowKit
set_option linter.unusedVariables false
set_option linter.unusedSimpArgs false

/-- What an operation makes. -/
structure Eff where
  dst : Option Nat
  val : AV
  hp : List (Nat × OB)
def Eff.sl (e : Eff) : List (Nat × AV) := match e.dst with | some d => [(d, e.val)] | none => []
def Eff.is (e : Eff) (s : Nat) : Bool := match e.dst with | some d => Nat.beq d s | none => false
/-- Which operation makes slot s? -/
def maker (s : Nat) : Nat → List Eff → Option (Nat × AV)
  | _, [] => none
  | i, e :: es => bif e.is s then some (i, e.val) else maker s (i + 1) es
/-- Which operation makes block r? -/
def hmaker (r : Nat) : Nat → List Eff → Option (Nat × OB)
  | _, [] => none
  | i, e :: es => bif (look OB.dead e.hp r).alive then some (i, look OB.dead e.hp r) else hmaker r (i + 1) es
def memN (i : Nat) : List Nat → Bool
  | [] => false
  | j :: l => Nat.beq i j || memN i l
theorem memN_iff {i : Nat} : ∀ {l : List Nat}, memN i l = true ↔ i ∈ l
  | [] => by simp [memN]
  | j :: l => by
    simp only [memN, Bool.or_eq_true, List.mem_cons, memN_iff (l := l)]
    constructor
    · rintro (h | h)
      · exact .inl (Nat.eq_of_beq_eq_true h)
      · exact .inr h
    · rintro (h | h)
      · subst h; exact .inl (by simp)
      · exact .inr h
/-- The operations that o hangs on, at whatever distance. -/
def clos (ops : Array Oper) (i : Nat) : List Nat := closeN ops ops.size (depsOf ops i)
def rdOf (ops : Array Oper) (o : Oper) : List Nat := o.looksAt ops
/-- What is known of slot s when operation i runs. -/
def kn (ops : Array Oper) (effs : List Eff) (base : AS) (i s : Nat) : Option AV :=
  match maker s 0 effs with
  | some (j, v) => bif memN j (depsOf ops i) then some v else none
  | none => some (look AV.any base.slots s)
def knH (ops : Array Oper) (effs : List Eff) (base : AS) (i r : Nat) : Option OB :=
  match hmaker r 0 effs with
  | some (j, v) => bif memN j (clos ops i) then some v else none
  | none => bif (look OB.dead base.heap r).alive then some (look OB.dead base.heap r) else none

section
variable {P : Program} {E : Env} {kp : List Nat} {n : Nat} {ops : Array Oper} {Q : Exit → Act → World → Prop} {base st st' : AS}

/-- Operation i makes e, behind those that it hangs on. -/
def FStep (P : Program) (E : Env) (kp : List Nat) (n : Nat) (ops : Array Oper) (base : AS) (effs : List Eff) (i : Nat) (e : Eff) : Prop :=
  ∀ o, ops[i]? = some o → ∀ st : AS, (∀ s v, memN s (rdOf ops o) = true → kn ops effs base i s = some v → look AV.any st.slots s = v) → (∀ r ob, knH ops effs base i r = some ob → st.ob r = ob) → freeAll st kp e.hp = true →
    Step P E kp n ops o st ⟨e.sl ++ st.slots, e.hp ++ st.heap⟩
def StepsOk (P : Program) (E : Env) (kp : List Nat) (n : Nat) (ops : Array Oper) (base : AS) (effs : List Eff) : Prop := ∀ i e, effs[i]? = some e → FStep P E kp n ops base (effs.take i) i e
/-- The goal behind some effects. -/
def AF (P : Program) (E : Env) (kp : List Nat) (n : Nat) (ops : Array Oper) (base : AS) (effs : List Eff) (G : Prop) : Prop := StepsOk P E kp n ops base effs → G
theorem AF.step {effs : List Eff} {G : Prop} {i : Nat} {o : Oper} {e : Eff} (hi : effs.length = i) (ho : ops[i]? = some o)
    (h : ∀ st : AS, (∀ s v, memN s (rdOf ops o) = true → kn ops effs base i s = some v → look AV.any st.slots s = v) → (∀ r ob, knH ops effs base i r = some ob → st.ob r = ob) → freeAll st kp e.hp = true → Step P E kp n ops o st ⟨e.sl ++ st.slots, e.hp ++ st.heap⟩)
    (k : AF P E kp n ops base (effs ++ [e]) G) : AF P E kp n ops base effs G := fun hs => k fun j e' hj => by
  rcases Nat.lt_trichotomy j effs.length with hlt | heq | hgt
  · rw [List.getElem?_append_left hlt] at hj
    rw [List.take_append_of_le_length (Nat.le_of_lt hlt)]
    exact hs j e' hj
  · subst heq
    rw [List.getElem?_append_right (Nat.le_refl _)] at hj
    simp at hj; subst hj
    rw [List.take_append_of_le_length (Nat.le_refl _), List.take_length]
    subst hi
    intro o' ho'
    rw [ho] at ho'; cases ho'
    exact h
  · rw [List.getElem?_eq_none (by simp; omega)] at hj; cases hj

theorem AF.val {effs : List Eff} {G : Prop} {i d : Nat} {o : Oper} {v : AV} (hi : effs.length = i) (ho : ops[i]? = some o)
    (h : ∀ st : AS, (∀ s v, memN s (rdOf ops o) = true → kn ops effs base i s = some v → look AV.any st.slots s = v) → (∀ r ob, knH ops effs base i r = some ob → st.ob r = ob) → Step P E kp n ops o st (st.put d v))
    (k : AF P E kp n ops base (effs ++ [⟨some d, v, []⟩]) G) : AF P E kp n ops base effs G := AF.step (e := ⟨some d, v, []⟩) hi ho (fun st ha hb _ => h st ha hb) k
/-- A slot's value, out of what is known. -/
theorem Gv.k {s : Nat} {v x : AV} (h : look AV.any st.slots s = v) (hx : Gv v x) : Gv (st.ev (.tmp s)) x := by
  show Gv (look AV.any st.slots s) x; rw [h]; exact hx

/-! What is checked of the effects, at the end. -/
theorem look_mem : ∀ {l : List (Nat × OB)} {r : Nat}, (look OB.dead l r).alive = true → (r, look OB.dead l r) ∈ l
  | [], r, h => by cases h
  | (k, x) :: l, r, h => by
    rw [look_cons] at h ⊢
    by_cases e : k = r
    · subst e; rw [if_pos rfl]; simp
    · rw [if_neg e] at h ⊢; exact List.mem_cons_of_mem _ (look_mem h)
theorem Sat.congr {a : Act} {w : World} (hs : ∀ s, look AV.any st'.slots s = look AV.any st.slots s) (hh : ∀ r, look OB.dead st'.heap r = look OB.dead st.heap r) (h : Sat E kp n st a w) : Sat E kp n st' a w := by
  obtain ⟨φ, Pub, I, h0, hn, hsl⟩ := h
  exact ⟨φ, Pub, I.sub (fun r => .inl (hh r)), h0, hn, fun s => by rw [hs]; exact hsl s⟩
def AD (P : Program) (E : Env) (kp : List Nat) (n : Nat) (ops : Array Oper) (Q : Exit → Act → World → Prop) (fuel : Nat) (listed : Array Bool) (st : AS) : Prop := ∀ a w, Sat E kp n st a w → wpAny P .any ops Q fuel listed a w
theorem hHas_append (r : Nat) : ∀ (l m : List (Nat × OB)), hHas r (l ++ m) = (hHas r l || hHas r m)
  | [], m => by simp [hHas]
  | p :: l, m => by simp only [List.cons_append, hHas, hHas_append r l m, Bool.or_assoc]
theorem sHas_append (r : Nat) : ∀ (l m : List (Nat × AV)), sHas r (l ++ m) = (sHas r l || sHas r m)
  | [], m => by simp [sHas]
  | p :: l, m => by simp only [List.cons_append, sHas, sHas_append r l m, Bool.or_assoc]
theorem freeAll_mem : ∀ {l : List (Nat × OB)} {p : Nat × OB}, freeAll st kp l = true → p ∈ l → st.free kp p.1 = true
  | (k, x) :: l, p, h, hp => by
    simp only [freeAll, Bool.and_eq_true] at h
    rcases List.mem_cons.1 hp with e | e
    · subst e; exact h.1
    · exact freeAll_mem h.2 e
theorem free_mk {r : Nat} (h1 : (look OB.dead st.heap r).alive = false) (h2 : hHas r st.heap = false) (h3 : sHas r st.slots = false) (h4 : r ∉ kp) : st.free kp r = true := by
  unfold AS.free
  rw [h1, h2, h3]
  have : kp.contains r = false := by
    cases hc : kp.contains r with
    | false => rfl
    | true => exact absurd (List.contains_iff_mem.1 hc) h4
  rw [this]; rfl
/-- Behind the first ones: the one that alone may come. -/
theorem AD.one {i fuel : Nat} {o : Oper} {listed : Array Bool} (hr : Region.ready .any ops listed = [i]) (hi : ops[i]? = some o) (h : Step P E kp n ops o st st') (k : AD P E kp n ops Q fuel (listed.setIfInBounds i true) st') : AD P E kp n ops Q (fuel + 1) listed st := by
  intro a w hs
  refine ⟨(fun h0 => by rw [hr] at h0; cases h0), fun j hj => ?_⟩
  rw [hr] at hj
  simp at hj; subst hj
  exact wpOp_step hi fun K hK => h a w K Q hs fun a' w' hs' => hK _ _ (k a' w' hs')
theorem AD.nil {fuel : Nat} {listed : Array Bool} (hr : Region.ready .any ops listed = []) (h : To E kp n Q .normal st) : AD P E kp n ops Q fuel listed st := by
  intro a w hs
  cases fuel with
  | zero => exact ⟨hr, h a w hs⟩
  | succ f => exact ⟨fun _ => h a w hs, fun i hi => by rw [hr] at hi; cases hi⟩
end
end Go.Proofs.YtcebndkiagbddaaGreatDoor

/- A call that is given blocks of its caller's own, under the contract's names. It names no function of the program. -/
namespace Go.Proofs.YtcebndkiagbddaaGreatDoor
open Go.RowKit
set_option linter.unusedVariables false
set_option linter.unusedSimpArgs false

/-- Names are turned by a list of pairs. -/
def sg (σ : List (Nat × Nat)) (q : Nat) : Nat := look 0 σ q
/-- Which name is turned to r? -/
def sgi (r : Nat) : List (Nat × Nat) → Option Nat
  | [] => none
  | (q, x) :: σ => bif Nat.beq x r then some q else sgi r σ
def domN (q : Nat) : List (Nat × Nat) → Bool
  | [] => false
  | (k, _) :: σ => Nat.beq k q || domN q σ
/-- No name stands twice, on either side. -/
def sgOk : List (Nat × Nat) → Bool
  | [] => true
  | (q, x) :: σ => !domN q σ && (sgi x σ).isNone && sgOk σ
mutual
def AV.sg (σ : List (Nat × Nat)) : AV → AV
  | .p x => .p x
  | .agg l => .agg (sgL σ l)
  | .tup l => .tup (sgL σ l)
  | .own q off => .own (YtcebndkiagbddaaGreatDoor.sg σ q) off
  | .osl q n => .osl (YtcebndkiagbddaaGreatDoor.sg σ q) n
  | .mref q => .mref (YtcebndkiagbddaaGreatDoor.sg σ q)
  | .oss q k n s => .oss (YtcebndkiagbddaaGreatDoor.sg σ q) k n s
  | .cnd g x => .cnd g (AV.sg σ x)
  | .any => .any
def sgL (σ : List (Nat × Nat)) : List AV → List AV
  | [] => []
  | x :: xs => AV.sg σ x :: sgL σ xs
end
mutual
/-- All names are turned. -/
def AV.inD (σ : List (Nat × Nat)) : AV → Bool
  | .p _ => true
  | .agg l => inDL σ l
  | .tup l => inDL σ l
  | .own q _ => domN q σ
  | .osl q _ => domN q σ
  | .mref q => domN q σ
  | .oss q _ _ _ => domN q σ
  | .cnd _ x => AV.inD σ x
  | .any => true
def inDL (σ : List (Nat × Nat)) : List AV → Bool
  | [] => true
  | x :: xs => AV.inD σ x && inDL σ xs
end
def OB.sg (σ : List (Nat × Nat)) : OB → OB
  | .box cells t => .box (sgL σ cells) t
  | .it m a b c => .it (YtcebndkiagbddaaGreatDoor.sg σ m) a b c
  | .ra c t s ns => .ra c t s (ns.map (YtcebndkiagbddaaGreatDoor.sg σ))
  | x => x
def OB.inD (σ : List (Nat × Nat)) : OB → Bool
  | .box cells _ => inDL σ cells
  | .it m _ _ _ => domN m σ
  | .ra _ _ _ ns => ns.all fun q => domN q σ
  | _ => true
theorem sgi_sg : ∀ {σ : List (Nat × Nat)} {q : Nat}, sgOk σ = true → domN q σ = true → sgi (sg σ q) σ = some q
  | [], q, _, h => by cases h
  | (k, x) :: σ, q, ho, h => by
    simp only [sgOk, Bool.and_eq_true, Bool.not_eq_true'] at ho
    obtain ⟨⟨h1, h2⟩, h3⟩ := ho
    unfold sg
    rw [look_cons]
    by_cases e : k = q
    · subst e; simp [sgi]
    · rw [if_neg e]
      have hd : domN q σ = true := by
        simp only [domN, Bool.or_eq_true] at h
        rcases h with h | h
        · exact absurd (Nat.eq_of_beq_eq_true h) e
        · exact h
      have ih := sgi_sg h3 hd
      unfold sg at ih
      simp only [sgi]
      cases hx : Nat.beq x (look 0 σ q) with
      | false => exact ih
      | true =>
        have := Nat.eq_of_beq_eq_true hx
        rw [← this] at ih; rw [ih] at h2; cases h2
theorem sgi_some : ∀ {σ : List (Nat × Nat)} {r q : Nat}, sgOk σ = true → sgi r σ = some q → domN q σ = true ∧ sg σ q = r
  | [], r, q, _, h => by cases h
  | (k, x) :: σ, r, q, ho, h => by
    simp only [sgOk, Bool.and_eq_true, Bool.not_eq_true'] at ho
    simp only [sgi] at h
    unfold sg
    rw [look_cons]
    cases hx : Nat.beq x r with
    | true =>
      rw [hx] at h; simp at h; subst h
      exact ⟨by simp [domN], by rw [if_pos rfl]; exact Nat.eq_of_beq_eq_true hx⟩
    | false =>
      rw [hx] at h; simp at h
      obtain ⟨h1, h2⟩ := sgi_some ho.2 h
      have hne : k ≠ q := fun e => by subst e; rw [h1] at ho; simp at ho
      exact ⟨by simp [domN, h1], by rw [if_neg hne]; exact h2⟩
section
variable {w : World} {Pub : Nat → Nat → Prop} {φ ψ : Ghost} {σ : List (Nat × Nat)}
mutual
/-- What a turned value is, under places that are turned back. -/
theorem RA_sg (H : ∀ q, domN q σ = true → ψ (sg σ q) = φ q) : ∀ (x : AV) (u : Value), x.inD σ = true → (RA w Pub ψ (x.sg σ) u ↔ RA w Pub φ x u)
  | .p x, u, _ => by simp only [AV.sg, RA]
  | .agg l, u, h => by
    unfold AV.inD at h
    simp only [AV.sg, RA]
    constructor
    · rintro ⟨vs, e, k⟩; exact ⟨vs, e, (RAs_sg H l vs h).1 k⟩
    · rintro ⟨vs, e, k⟩; exact ⟨vs, e, (RAs_sg H l vs h).2 k⟩
  | .tup l, u, h => by
    unfold AV.inD at h
    simp only [AV.sg, RA]
    constructor
    · rintro ⟨vs, e, k⟩; exact ⟨vs, e, (RAs_sg H l vs h).1 k⟩
    · rintro ⟨vs, e, k⟩; exact ⟨vs, e, (RAs_sg H l vs h).2 k⟩
  | .own q off, u, h => by unfold AV.inD at h; simp only [AV.sg, RA, H q h]
  | .osl q n, u, h => by unfold AV.inD at h; simp only [AV.sg, RA, H q h]
  | .mref q, u, h => by unfold AV.inD at h; simp only [AV.sg, RA, H q h]
  | .oss q _ _ _, u, h => by unfold AV.inD at h; simp only [AV.sg, RA, H q h]
  | .cnd g x, u, h => by
    unfold AV.inD at h
    simp only [AV.sg, RA]
    constructor
    · rintro ⟨k1, k2⟩; exact ⟨fun hg => (RA_sg H x u h).1 (k1 hg), k2⟩
    · rintro ⟨k1, k2⟩; exact ⟨fun hg => (RA_sg H x u h).2 (k1 hg), k2⟩
  | .any, u, _ => by simp only [AV.sg, RA]
theorem RAs_sg (H : ∀ q, domN q σ = true → ψ (sg σ q) = φ q) : ∀ (l : List AV) (us : List Value), inDL σ l = true → (RAs w Pub ψ (sgL σ l) us ↔ RAs w Pub φ l us)
  | [], us, _ => by simp only [sgL, RAs]
  | x :: xs, us, h => by
    simp only [inDL, Bool.and_eq_true] at h
    simp only [sgL, RAs]
    constructor
    · rintro ⟨u, us', e, k1, k2⟩; exact ⟨u, us', e, (RA_sg H x u h.1).1 k1, (RAs_sg H xs us' h.2).1 k2⟩
    · rintro ⟨u, us', e, k1, k2⟩; exact ⟨u, us', e, (RA_sg H x u h.1).2 k1, (RAs_sg H xs us' h.2).2 k2⟩
end
theorem Hp_sg (H : ∀ q, domN q σ = true → ψ (sg σ q) = φ q) {q : Nat} (hq : domN q σ = true) {ob : OB} (hi : ob.inD σ = true) : Hp w Pub ψ (sg σ q) (ob.sg σ) ↔ Hp w Pub φ q ob := by
  cases ob with
  | dead => exact Iff.rfl
  | row cells t sz pub => simp only [OB.sg, Hp, H q hq]
  | ra cells t sz ns =>
    have hl : loc ψ (ns.map (sg σ)) = loc φ ns := by
      funext j
      unfold loc
      rw [List.getElem?_map]
      cases hj : ns[j]? with
      | none => rfl
      | some x => exact H x (List.all_eq_true.1 hi x (List.mem_of_getElem? hj))
    simp only [OB.sg, Hp, H q hq, hl]
  | obj p => simp only [OB.sg, Hp, H q hq]
  | it m a b c => have hm : domN m σ = true := hi; simp only [OB.sg, Hp, H q hq, H m hm]
  | box cells t =>
    simp only [OB.sg, Hp, H q hq]
    constructor
    · rintro ⟨b, cur, k1, k2, k3, k4⟩; exact ⟨b, cur, k1, k2, (RAs_sg H cells _ hi).1 k3, k4⟩
    · rintro ⟨b, cur, k1, k2, k3, k4⟩; exact ⟨b, cur, k1, k2, (RAs_sg H cells _ hi).2 k3, k4⟩
end
/-- The blocks of a contract, under the caller's names. -/
def sgH (σ : List (Nat × Nat)) : List (Nat × OB) → List (Nat × OB)
  | [] => []
  | (q, ob) :: h => (sg σ q, ob.sg σ) :: sgH σ h
def inDH (σ : List (Nat × Nat)) : List (Nat × OB) → Bool
  | [] => true
  | (q, ob) :: h => domN q σ && ob.inD σ && inDH σ h
/-- The blocks that come in are gone. -/
def deadH (σ : List (Nat × Nat)) : List (Nat × OB) → List (Nat × OB)
  | [] => []
  | (q, _) :: h => (sg σ q, .dead) :: deadH σ h
/-- The blocks that come in are those of the caller's. -/
def sameH (st : AS) (σ : List (Nat × Nat)) : List (Nat × OB) → Prop
  | [] => True
  | (q, ob) :: h => st.ob (sg σ q) = ob.sg σ ∧ ob.alive = true ∧ sameH st σ h
/-- Names of the contract that do not come in are free. -/
def newOk (st : AS) (kp : List Nat) (hin : List (Nat × OB)) : List (Nat × Nat) → Bool
  | [] => true
  | (q, x) :: σ => ((look OB.dead hin q).alive || st.free kp x) && newOk st kp hin σ
theorem look_sgH {σ : List (Nat × Nat)} (ho : sgOk σ = true) {q : Nat} (hq : domN q σ = true) : ∀ {h : List (Nat × OB)}, inDH σ h = true → look OB.dead (sgH σ h) (sg σ q) = (look OB.dead h q).sg σ
  | [], _ => rfl
  | (k, ob) :: h, hi => by
    simp only [inDH, Bool.and_eq_true] at hi
    simp only [sgH, look_cons]
    by_cases e : k = q
    · subst e; rw [if_pos rfl, if_pos rfl]
    · have : sg σ k ≠ sg σ q := fun e2 => by
        have h1 := sgi_sg ho hi.1.1
        have h2 := sgi_sg ho hq
        rw [e2, h2] at h1; injection h1 with h1; exact e h1.symm
      rw [if_neg e, if_neg this]; exact look_sgH ho hq hi.2
theorem inDH_look {σ : List (Nat × Nat)} {q : Nat} : ∀ {h : List (Nat × OB)}, inDH σ h = true → (look OB.dead h q).inD σ = true ∧ ((look OB.dead h q).alive = true → domN q σ = true)
  | [], _ => ⟨rfl, fun h => by cases h⟩
  | (k, ob) :: h, hi => by
    simp only [inDH, Bool.and_eq_true] at hi
    rw [look_cons]
    by_cases e : k = q
    · subst e; rw [if_pos rfl]; exact ⟨hi.1.2, fun _ => hi.1.1⟩
    · rw [if_neg e]; exact inDH_look hi.2
theorem sg_alive {σ : List (Nat × Nat)} {ob : OB} : (ob.sg σ).alive = ob.alive := by cases ob <;> rfl
theorem sameH_look {st : AS} {σ : List (Nat × Nat)} {q : Nat} : ∀ {h : List (Nat × OB)}, sameH st σ h → (look OB.dead h q).alive = true → look OB.dead st.heap (sg σ q) = (look OB.dead h q).sg σ
  | [], _, ha => by cases ha
  | (k, ob) :: h, hs, ha => by
    obtain ⟨h1, _, h2⟩ := hs
    rw [look_cons] at ha ⊢
    by_cases e : k = q
    · subst e; rw [if_pos rfl]; exact h1
    · rw [if_neg e] at ha ⊢; exact sameH_look h2 ha
def hasK {α : Type} (r : Nat) : List (Nat × α) → Bool
  | [] => false
  | (k, _) :: l => Nat.beq k r || hasK r l
theorem look_app {α : Type} {d : α} (X : List (Nat × α)) (r : Nat) : ∀ (l : List (Nat × α)), look d (l ++ X) r = if hasK r l = true then look d l r else look d X r
  | [] => by simp [hasK]
  | (k, x) :: l => by
    rw [List.cons_append, look_cons, look_cons]
    by_cases e : k = r
    · subst e; simp [hasK]
    · have hb : Nat.beq k r = false := by
        cases hb : Nat.beq k r
        · rfl
        · exact absurd (Nat.eq_of_beq_eq_true hb) e
      rw [if_neg e, if_neg e, look_app X r l]
      simp only [hasK, hb, Bool.false_or]
theorem hasK_sgH {σ : List (Nat × Nat)} {r : Nat} (hr : sgi r σ = none) (ho : sgOk σ = true) : ∀ {h : List (Nat × OB)}, inDH σ h = true → hasK r (sgH σ h) = false
  | [], _ => rfl
  | (k, ob) :: h, hi => by
    simp only [inDH, Bool.and_eq_true] at hi
    simp only [sgH, hasK, hasK_sgH hr ho hi.2, Bool.or_false]
    cases hb : Nat.beq (sg σ k) r
    · rfl
    · have := Nat.eq_of_beq_eq_true hb; subst this; rw [sgi_sg ho hi.1.1] at hr; cases hr
theorem hasK_deadH {σ : List (Nat × Nat)} {r : Nat} (hr : sgi r σ = none) (ho : sgOk σ = true) : ∀ {h : List (Nat × OB)}, inDH σ h = true → hasK r (deadH σ h) = false
  | [], _ => rfl
  | (k, ob) :: h, hi => by
    simp only [inDH, Bool.and_eq_true] at hi
    simp only [deadH, hasK, hasK_deadH hr ho hi.2, Bool.or_false]
    cases hb : Nat.beq (sg σ k) r
    · rfl
    · have := Nat.eq_of_beq_eq_true hb; subst this; rw [sgi_sg ho hi.1.1] at hr; cases hr
theorem look_deadH {σ : List (Nat × Nat)} {r : Nat} : ∀ {h : List (Nat × OB)}, look OB.dead (deadH σ h) r = .dead
  | [] => rfl
  | (k, ob) :: h => by
    simp only [deadH, look_cons]
    split
    · rfl
    · exact look_deadH
theorem hasK_dead_of {σ : List (Nat × Nat)} {q : Nat} : ∀ {h : List (Nat × OB)}, hasK (sg σ q) (deadH σ h) = false → (look OB.dead h q).alive = false
  | [], _ => rfl
  | (k, ob) :: h, hn => by
    simp only [deadH, hasK, Bool.or_eq_false_iff] at hn
    rw [look_cons]
    by_cases e : k = q
    · subst e; simp at hn
    · rw [if_neg e]; exact hasK_dead_of hn.2
theorem sgi_mem : ∀ {σ : List (Nat × Nat)} {r q : Nat}, sgi r σ = some q → (q, r) ∈ σ
  | [], r, q, h => by cases h
  | (k, x) :: σ, r, q, h => by
    simp only [sgi] at h
    cases hx : Nat.beq x r with
    | true =>
      rw [hx] at h; simp at h; subst h
      have := Nat.eq_of_beq_eq_true hx; subst this; simp
    | false => rw [hx] at h; simp at h; exact List.mem_cons_of_mem _ (sgi_mem h)
/-- What lies under the caller's names behind the call. -/
theorem look_behind {σ : List (Nat × Nat)} (ho : sgOk σ = true) {hin hout H : List (Nat × OB)} (hi : inDH σ hin = true) (hu : inDH σ hout = true) (hcov : ∀ p ∈ σ, (look OB.dead hin p.1).alive = true ∨ (look OB.dead H p.2).alive = false) (r : Nat)
    (ha : (look OB.dead (sgH σ hout ++ (deadH σ hin ++ H)) r).alive = true) :
      (∃ q, domN q σ = true ∧ sg σ q = r ∧ (look OB.dead hout q).alive = true ∧ look OB.dead (sgH σ hout ++ (deadH σ hin ++ H)) r = (look OB.dead hout q).sg σ) ∨
      (sgi r σ = none ∧ look OB.dead (sgH σ hout ++ (deadH σ hin ++ H)) r = look OB.dead H r) := by
  rw [look_app, look_app] at ha ⊢
  cases hr : sgi r σ with
  | none =>
    rw [hasK_sgH hr ho hu, hasK_deadH hr ho hi]
    exact .inr ⟨rfl, by simp⟩
  | some q =>
    obtain ⟨h1, h2⟩ := sgi_some ho hr
    refine .inl ⟨q, h1, h2, ?_⟩
    have hl : look OB.dead (sgH σ hout) r = (look OB.dead hout q).sg σ := by rw [← h2]; exact look_sgH ho h1 hu
    by_cases k1 : hasK r (sgH σ hout) = true
    · rw [if_pos k1] at ha ⊢
      rw [hl] at ha ⊢
      rw [sg_alive] at ha
      exact ⟨ha, rfl⟩
    · rw [if_neg k1] at ha
      by_cases k2 : hasK r (deadH σ hin) = true
      · rw [if_pos k2, look_deadH] at ha; cases ha
      · rw [if_neg k2] at ha
        rcases hcov _ (sgi_mem hr) with h | h
        · have := hasK_dead_of (σ := σ) (q := q) (h := hin) (by rw [h2]; simpa using k2)
          rw [this] at h; cases h
        · rw [h] at ha; cases ha

section
variable {P : Program} {E : Env} {kp : List Nat} {n : Nat} {ops : Array Oper} {st st' : AS}
/-- A name of the contract's that does not come in is free. -/
theorem newOk_mem {hin : List (Nat × OB)} : ∀ {σ : List (Nat × Nat)} {p : Nat × Nat}, newOk st kp hin σ = true → p ∈ σ → (look OB.dead hin p.1).alive = true ∨ st.free kp p.2 = true
  | (q, x) :: σ, p, h, hp => by
    simp only [newOk, Bool.and_eq_true, Bool.or_eq_true] at h
    rcases List.mem_cons.1 hp with e | e
    · subst e; exact h.1
    · exact newOk_mem h.2 e
/-- **A call that is given blocks of its caller's own**; σ: the contract's names, as the caller has them. -/
theorem callX {f : FuncId} {d : Option Tmp} {args : List Operand} {argTypes : Array TypeId} {ty : TypeId} {ps : String} {af : Array Edge} {as : List AV} {hin hout : List (Nat × OB)} {res : AV} (σ : List (Nat × Nat)) (hc : callable P f = true)
    (hev : Ev P f hin as hout res) (hsame : sameH st σ hin) (hchk : (sgOk σ && inDL σ as && inDH σ hin && inDH σ hout && res.inD σ && newOk st kp hin σ) = true) (hcl : (closedH hout hout && res.inH hout) = true)
    (hd : ∀ x, d = some x → Nat.blt x n = true) {a : Act} {w : World} {K : Act → World → Prop} {Q : Exit → Act → World → Prop} {φ : Ghost} {Pub : Nat → Nat → Prop} (I : Inv E kp φ Pub st.heap w) (h0 : a.defers = []) (hn : a.tmps.size = n)
    (hs : ∀ s, RA w Pub φ (look .any st.slots s) (a.tmps.getD s undef)) {x : Operand} {caps : List Value} (hx : a.eval x = .func (.func f) #[] caps.toArray) (hA0 : RAs w Pub φ (sgL σ as) (args.map a.eval ++ caps))
    (hK : ∀ a' w', Sat E kp n ⟨(match d with | some x => (x, res.sg σ) :: st.slots | none => st.slots), sgH σ hout ++ (deadH σ hin ++ st.heap)⟩ a' w' → K a' w') :
    Oper.wp P ⟨d, .call { callee := .value x, args := args.toArray, argTypes }, ty, ps, af, none⟩ a w K Q := by
  simp only [Bool.and_eq_true] at hchk hcl
  obtain ⟨⟨⟨⟨⟨ho, hia⟩, hii⟩, hio⟩, hir⟩, hnew⟩ := hchk
  have hcov : ∀ p ∈ σ, (look OB.dead hin p.1).alive = true ∨ (look OB.dead st.heap p.2).alive = false := fun p hp => (newOk_mem hnew hp).imp id fun h => (free_split h).1
  let φ1 : Ghost := fun q => φ (sg σ q)
  have hinA : ∀ q, (look OB.dead hin q).alive = true → domN q σ = true ∧ look OB.dead st.heap (sg σ q) = (look OB.dead hin q).sg σ ∧ (look OB.dead st.heap (sg σ q)).alive = true := fun q hq => by
    have h1 := sameH_look hsame hq
    exact ⟨(inDH_look hii).2 hq, h1, by rw [h1, sg_alive]; exact hq⟩
  let E1 : Env := ⟨w, fun b => ∃ q c, (look OB.dead hin q).alive = true ∧ φ1 q = some (b, c), Pub, φ1, I.amb, fun t ht ⟨q, c, ha, hb⟩ => own_np (I.own (sg σ q)) (hinA q ha).2.2 hb (I.amb t ht).1⟩
  have I1 : Inv E1 (hin.map (·.1)) φ1 Pub hin w := by
    refine ⟨rfl, rfl, rfl, Nat.le_refl _, fun _ _ _ => rfl, fun q => ?_, fun q b c hq hb => .inr ⟨q, c, hq, hb⟩, fun q q' b c c' hq hq' hb hb' => ?_, fun _ _ h => h, fun _ _ h => .inl h, I.publ, fun _ _ _ => rfl, fun _ _ => rfl⟩
    · cases ha : (look OB.dead hin q).alive with
      | false => cases hz : look OB.dead hin q <;> rw [hz] at ha <;> first | trivial | cases ha
      | true =>
        obtain ⟨h1, h2, h3⟩ := hinA q ha
        have k := I.own (sg σ q)
        rw [h2] at k
        exact (Hp_sg (ψ := φ) (φ := φ1) (fun _ _ => rfl) h1 (inDH_look hii).1).1 k
    · obtain ⟨h1, h2, h3⟩ := hinA q hq
      obtain ⟨h1', h2', h3'⟩ := hinA q' hq'
      have e := I.inj _ _ b c c' h3 h3' hb hb'
      have k1 := sgi_sg ho h1
      rw [e, sgi_sg ho h1'] at k1
      injection k1 with k1; exact k1.symm
  have hA : RAs w Pub φ1 as (args.map a.eval ++ caps) := by
    exact (RAs_sg (ψ := φ) (φ := φ1) (fun _ _ => rfl) as _ hia).1 hA0
  have hcall := hev E1 φ1 Pub w (args.map a.eval ++ caps) rfl rfl I1 hA
  have hrun : (execOp a.eval ⟨d, .call { callee := .value x, args := args.toArray, argTypes }, ty, ps, af, none⟩).run P w = .ok (.enter f (args.map a.eval ++ caps).toArray) w := by
    simp [execOp, resolve, hx, Deferred.ofValue, invoke, run_callFunc hc]
  unfold Oper.wp
  rw [hrun]
  show Calls P f _ w _
  refine hcall.mono ?_
  rintro e w' ⟨v, φ', Pub', rfl, I', hR⟩
  refine hK _ _ ?_
  have H : Adv w Pub w' Pub' := fun b i hp => ⟨I'.pub0 b i hp, I'.same b i hp⟩
  let ψ : Ghost := fun r => match sgi r σ with | some q => φ' q | none => φ r
  have hψ : ∀ q, domN q σ = true → ψ (sg σ q) = φ' q := fun q hq => by show (match sgi (sg σ q) σ with | some q => φ' q | none => _) = _; rw [sgi_sg ho hq]
  have hψo : ∀ r, sgi r σ = none → ψ r = φ r := fun r hr => by show (match sgi r σ with | some q => φ' q | none => _) = _; rw [hr]
  have hkept : ∀ q, (look OB.dead hin q).alive = true → φ' q = φ1 q := fun q hq => I'.kept q (by
    have := look_mem hq
    exact List.mem_map.2 ⟨_, this, rfl⟩)
  -- names that somebody speaks of already
  have hstale : ∀ r, (∀ x, sgi r σ = some x → (look OB.dead hin x).alive = true) → ψ r = φ r := fun r hr => by
    cases hz : sgi r σ with
    | none => exact hψo r hz
    | some q =>
      obtain ⟨h1, h2⟩ := sgi_some ho hz
      rw [← h2, hψ q h1, hkept q (hr q hz)]
  have hspk : ∀ r, (st.free kp r = false) → ψ r = φ r := fun r hr => hstale r fun q hq => by
    rcases newOk_mem hnew (sgi_mem hq) with h | h
    · exact h
    · rw [hr] at h; cases h
  have hsA : ∀ b, E1.A b → b < w.heap.size ∧ (E.w0.heap.size ≤ b ∨ E.A b) := fun b ⟨q, c, hq, hb⟩ => by
    obtain ⟨h1, h2, h3⟩ := hinA q hq
    exact ⟨I.lt h3 hb, I.mine _ b c h3 hb⟩
  have hother : ∀ r b c, sgi r σ = none → (look OB.dead st.heap r).alive = true → φ r = some (b, c) → ¬ E1.A b := fun r b c hr ha hb ⟨q, c', hq, hb'⟩ => by
    obtain ⟨h1, h2, h3⟩ := hinA q hq
    have := I.inj r _ b c c' ha h3 hb hb'
    rw [this, sgi_sg ho h1] at hr; cases hr
  have hbeh := look_behind ho hii hio hcov
  have IN : Inv E kp ψ Pub' (sgH σ hout ++ (deadH σ hin ++ st.heap)) w' := by
    refine I.next I'.os I'.tape I'.output I'.size (fun b hb hA => I'.block b (Nat.lt_of_lt_of_le hb I.size) (fun h => by
        rcases (hsA b h).2 with h | h
        · omega
        · exact hA h)) H (fun b i hp => ?_) I'.publ (fun r hr => ?_) (fun r b c hr hb => ?_) (fun r r' b c c' hr hr' hb hb' => ?_) (fun r hr => ?_)
    · rcases I'.pubs b i hp with h | h | h
      · exact .inl h
      · exact .inr (.inl (Nat.le_trans I.size h))
      · exact .inr (hsA b h).2
    · rcases hbeh r hr with ⟨q, h1, h2, h3, h4⟩ | ⟨h1, h2⟩
      · rw [h4, ← h2]
        exact (Hp_sg (ψ := ψ) (φ := φ') hψ h1 (inDH_look hio).1).2 (I'.own q)
      · rw [h2] at hr ⊢
        refine Hp_keep H (fun b c hb => ⟨I'.block b (I.lt hr hb) (hother r b c h1 hr hb), fun i hp => ?_⟩) (hψo r h1) (fun x hx => hspk x ?_) (I.own r)
        · rcases I'.pubs b i hp with h | h | h
          · exact h
          · exact absurd (I.lt hr hb) (Nat.not_lt.2 h)
          · exact absurd h (hother r b c h1 hr hb)
        · cases hf : st.free kp x with
          | false => rfl
          | true => rw [look_hHas (free_split hf).2.1] at hx; cases hx
    · rcases hbeh r hr with ⟨q, h1, h2, h3, h4⟩ | ⟨h1, h2⟩
      · rw [← h2, hψ q h1] at hb
        rcases I'.mine q b c h3 hb with h | h
        · exact .inl (Nat.le_trans I.size h)
        · exact (hsA b h).2
      · rw [hψo r h1] at hb; rw [h2] at hr; exact I.mine r b c hr hb
    · rcases hbeh r hr with ⟨q, h1, h2, h3, h4⟩ | ⟨h1, h2⟩ <;> rcases hbeh r' hr' with ⟨q', k1, k2, k3, k4⟩ | ⟨k1, k2⟩
      · rw [← h2, hψ q h1] at hb; rw [← k2, hψ q' k1] at hb'
        rw [← h2, ← k2, I'.inj q q' b c c' h3 k3 hb hb']
      · rw [← h2, hψ q h1] at hb; rw [hψo r' k1] at hb'; rw [k2] at hr'
        rcases I'.mine q b c h3 hb with h | h
        · exact absurd (I.lt hr' hb') (Nat.not_lt.2 h)
        · exact absurd h (hother r' b c' k1 hr' hb')
      · rw [hψo r h1] at hb; rw [← k2, hψ q' k1] at hb'; rw [h2] at hr
        rcases I'.mine q' b c' k3 hb' with h | h
        · exact absurd (I.lt hr hb) (Nat.not_lt.2 h)
        · exact absurd h (hother r b c h1 hr hb)
      · rw [hψo r h1] at hb; rw [hψo r' k1] at hb'; rw [h2] at hr; rw [k2] at hr'; exact I.inj r r' b c c' hr hr' hb hb'
    · refine hspk r ?_
      cases hf : st.free kp r with
      | false => rfl
      | true => exact absurd hr (free_split hf).2.2.2
  have hR' : RA w' Pub' ψ (res.sg σ) v := (RA_sg (ψ := ψ) (φ := φ') hψ res v hir).2 hR
  have hS : ∀ s, RA w' Pub' ψ (look .any st.slots s) (a.tmps.getD s undef) := fun s => RA_mono H _ _ (fun x hx => hspk x (by
      cases hf : st.free kp x with
      | false => rfl
      | true => rw [look_sHas (free_split hf).2.2.1] at hx; cases hx)) (hs s)
  cases d with
  | none => exact ⟨ψ, Pub', IN, h0, hn, hS⟩
  | some x => exact Sat.put IN h0 hn hS (hd x rfl) hR'

theorem S_callH {f : FuncId} {d : Option Tmp} {args : List Operand} {argTypes : Array TypeId} {ty : TypeId} {ps : String} {af : Array Edge} {as : List AV} {hin hout : List (Nat × OB)} {res : AV} (σ : List (Nat × Nat)) (hc : callable P f = true)
    (hev : Ev P f hin as hout res) (hargs : AllGv (args.map st.ev) (sgL σ as)) (hsame : sameH st σ hin) (hchk : (sgOk σ && inDL σ as && inDH σ hin && inDH σ hout && res.inD σ && newOk st kp hin σ) = true) (hcl : (closedH hout hout && res.inH hout) = true)
    (hd : ∀ x, d = some x → Nat.blt x n = true) :
    Step P E kp n ops ⟨d, .call { callee := .value (.func f), args := args.toArray, argTypes }, ty, ps, af, none⟩ st ⟨(match d with | some x => (x, res.sg σ) :: st.slots | none => st.slots), sgH σ hout ++ (deadH σ hin ++ st.heap)⟩ := by
  intro a w K Q ⟨φ, Pub, I, h0, hn, hs⟩ hK
  rw [if_pos (by rfl)]
  exact callX σ hc hev hsame hchk hcl hd I h0 hn hs (x := .func f) (caps := []) rfl (by rw [List.append_nil]; exact hargs.R (evs_R (st := st) hs args)) (fun a' w' h => hK a' w' (by cases d <;> exact h))

theorem mem_sgH {σ : List (Nat × Nat)} {q : Nat} {x : OB} : ∀ {h : List (Nat × OB)}, (q, x) ∈ h → (sg σ q, x.sg σ) ∈ sgH σ h
  | (k, ob) :: h, hm => by
    rcases List.mem_cons.1 hm with e | e
    · cases e; simp [sgH]
    · simp only [sgH]; exact List.mem_cons_of_mem _ (mem_sgH e)
theorem newOk_of {hin hout : List (Nat × OB)} {τ : List (Nat × Nat)} (hf : freeAll st kp (sgH τ hout) = true) : ∀ {σ : List (Nat × Nat)}, (∀ p ∈ σ, sg τ p.1 = p.2) → (σ.all fun p => (look OB.dead hout p.1).alive) = true → newOk st kp hin σ = true
  | [], _, _ => rfl
  | (q, x) :: σ, hs, hc => by
    simp only [List.all_cons, Bool.and_eq_true] at hc
    simp only [newOk, Bool.and_eq_true, Bool.or_eq_true]
    refine ⟨.inr ?_, newOk_of hf (fun p hp => hs p (List.mem_cons_of_mem _ hp)) hc.2⟩
    have := freeAll_mem hf (mem_sgH (look_mem hc.1))
    have e := hs (q, x) (by simp)
    simp only at e this
    rw [← e]; exact this
theorem sg_self : ∀ {σ : List (Nat × Nat)}, sgOk σ = true → ∀ p ∈ σ, sg σ p.1 = p.2
  | (k, x) :: σ, ho, p, hp => by
    simp only [sgOk, Bool.and_eq_true, Bool.not_eq_true'] at ho
    unfold sg; rw [look_cons]
    rcases List.mem_cons.1 hp with e | e
    · subst e; rw [if_pos rfl]
    · have hne : k ≠ p.1 := fun e2 => by
        have : domN p.1 σ = true := by
          clear ho hp
          induction σ with
          | nil => cases e
          | cons q σ ih =>
            rcases List.mem_cons.1 e with e | e
            · subst e; simp [domN]
            · simp [domN, ih e]
        rw [← e2, ho.1.1] at this; cases this
      rw [if_neg hne]; exact sg_self ho.2 p e
/-- **A call** on shared values that makes blocks for its caller alone. -/
theorem S_callN {f : FuncId} {d : Option Tmp} {args : List Operand} {argTypes : Array TypeId} {ty : TypeId} {ps : String} {af : Array Edge} {as : List AV} {hout : List (Nat × OB)} {res : AV} (σ : List (Nat × Nat)) (hc : callable P f = true)
    (hev : Ev P f [] as hout res) (hargs : AllGv (args.map st.ev) (sgL σ as)) (hchk : (sgOk σ && inDL σ as && inDH σ hout && res.inD σ && (σ.all fun p => (look OB.dead hout p.1).alive)) = true) (hcl : (closedH hout hout && res.inH hout) = true)
    (hf : freeAll st kp (sgH σ hout) = true) (hd : ∀ x, d = some x → Nat.blt x n = true) :
    Step P E kp n ops ⟨d, .call { callee := .value (.func f), args := args.toArray, argTypes }, ty, ps, af, none⟩ st ⟨(match d with | some x => (x, res.sg σ) :: st.slots | none => st.slots), sgH σ hout ++ st.heap⟩ := by
  simp only [Bool.and_eq_true] at hchk
  obtain ⟨⟨⟨⟨h1, h2⟩, h3⟩, h4⟩, h5⟩ := hchk
  exact S_callH σ hc hev hargs trivial (by
    simp only [Bool.and_eq_true]
    exact ⟨⟨⟨⟨⟨h1, h2⟩, rfl⟩, h3⟩, h4⟩, newOk_of hf (sg_self h1) h5⟩) hcl hd
end
end Go.Proofs.YtcebndkiagbddaaGreatDoor

/- 'copy' into a row of the call's own; negation; a division by a number that is not 0; what a contract over values without addresses says of a call from anywhere. They name no function of the program. -/
namespace Go.Proofs.YtcebndkiagbddaaGreatDoor
open Go.RowKit
set_option linter.unusedVariables false
set_option linter.unusedSimpArgs false

section
variable {P : Program} {E : Env} {kp : List Nat} {n : Nat} {ops : Array Oper} {st : AS} {d : Nat} {ty : TypeId} {ps : String} {af : Array Edge}
theorem run_copy_own {dT sT e : TypeId} (hu : P.underlying dT = some (.slice e)) (hs : szOf P e = some 1) {b m c k : Nat} {u : Value} {w : World} {cur : Array Value} {t : TypeId} {fr : Nat × Nat} (hb : w.heap[b]? = some (.cells cur t fr)) (hfr : FrOk t cur.size fr)
    (hk : (Builtin.lenOf u).run P w = .ok k w) {vs : List Value} (hf : (Builtin.firstCells 1 (Nat.min k m) u).run P w = .ok vs.toArray w) (hl : vs.length = Nat.min k m) (hin : vs.length ≤ cur.size) (h1 : ∀ v ∈ vs, v.oneCell' = true) :
    (Builtin.copy_ #[dT, sT] ty #[.slice (some ⟨b, 0, none⟩) m c, u]).run P w = .ok (goInt vs.length) (w.setCells b 0 vs) := by
  have hst := run_storeCells_cells (P := P) b 0 vs 0 w (fun j hj => by
    rw [cell_of_row w b _ cur t fr hb, Array.getElem?_eq_getElem (by omega)]; rfl) (fun j hj => by
    unfold World.frozen?; simp only [hb]
    rcases hfr with h0 | h0
    · subst h0; simp
    · have := h0.1; simp; omega) h1
  simp only [Nat.add_zero] at hst
  simp [Builtin.copy_, run_underlying hu, hk, run_sizeOf hs, hf, hst, hl]

theorem S_copyStr {T T2 e : TypeId} {x y : Operand} {r m sz pub : Nat} {cells : List PV} {l : List UInt8} (hx : Gv (st.ev x) (.osl r m)) (hl : st.ob r = .row cells e sz pub) (hy : Gv (st.ev y) (.p (strP l))) (hT : slOf P T = some (e, 1)) (hm : m ≤ cells.length) (hm0 : 0 < m) (hp : pub = 0) (hd : Nat.blt d n = true) :
    Step P E kp n ops ⟨some d, .call { callee := .builtin .copy, args := #[x, y], argTypes := #[T, T2] }, ty, ps, af, none⟩ st ((st.set r (.row (putL cells 0 ((l.take m).map b8P)) e sz pub)).put d (.p (i64P (Nat.min l.length m : Nat)))) := by
  refine Step.val rfl fun a w ⟨φ, Pub, I, h0, hn, hsl⟩ => ?_
  subst hp
  have h := hx _ _ _ _ (ev_R (h := st.heap) hsl x)
  have e1 := hy.v (ev_R (h := st.heap) hsl y)
  obtain ⟨t1, t2⟩ := sl_of hT
  have hmin : (l.take m).length = Nat.min l.length m := by rw [List.length_take]; exact Nat.min_comm _ _
  have hR := b8_RPs (w := w) (Pub := Pub) (l.take m)
  have h1 : ∀ u ∈ (l.take m).map (fun c => Value.int .u8 (c.toNat : Int)), u.oneCell' = true := by
    intro u hu; rw [List.mem_map] at hu; obtain ⟨c, _, rfl⟩ := hu; rfl
  have k := I.own r
  have hl' : look OB.dead st.heap r = .row cells e sz 0 := hl
  rw [hl'] at k
  have hlen : (Builtin.lenOf (.string ⟨l.toArray⟩)).run P w = .ok l.length w := rfl
  have hfc : (Builtin.firstCells 1 (Nat.min l.length m) (.string ⟨l.toArray⟩)).run P w = .ok ((l.take m).map fun c => Value.int .u8 (c.toNat : Int)).toArray w := by
    simp [Builtin.firstCells]
    exact Nat.min_comm _ _
  unfold RA at h
  rcases h with ⟨b, c, e2, e3, e4⟩ | ⟨e2, rfl, e3⟩
  · rcases k with ⟨k0, _⟩ | ⟨b', c', cur, fr, k1, ⟨k2, k2'⟩, k3, k4, k5, k6, k7, k8⟩
    · rw [e2] at k0; cases k0
    rw [e2] at k1; cases k1
    have hlv : ((l.take m).map fun c => Value.int .u8 (c.toNat : Int)).length = Nat.min l.length m := by rw [List.length_map]; exact hmin
    have hmm : Nat.min l.length m ≤ m := Nat.min_le_right _ _
    obtain ⟨I', H⟩ := I.storeRow (o := 0) hl' e2 hR h1 (Nat.zero_le _) (by rw [List.length_map, hmin]; omega)
    refine ⟨_, _, ?_, Sat.put (u := goInt (Nat.min l.length m)) I' h0 hn (fun q => RA_mono H _ _ (fun _ _ => rfl) (hsl q)) hd (by unfold RA RP; rfl)⟩
    have hr := run_copy_own (P := P) (sT := T2) (ty := ty) (c := c) t1 t2 k2 k2' hlen hfc hlv (by rw [hlv]; omega) h1
    simp only [execOp, resolve, invoke, builtin, Sem.run_bind, Sem.run_pure, Result.andThen_ok, List.map_toArray, List.map_cons, List.map_nil, e1, e3, hr, hlv]
  · omega
theorem S_copyBs {T T2 e : TypeId} {x y : Operand} {r m sz pub : Nat} {cells : List PV} {l : List UInt8} (hx : Gv (st.ev x) (.osl r m)) (hl : st.ob r = .row cells e sz pub) (hy : Gv (st.ev y) (.p (bytesP l))) (hT : slOf P T = some (e, 1)) (hm : m ≤ cells.length) (hm0 : 0 < m) (hp : pub = 0) (hd : Nat.blt d n = true) :
    Step P E kp n ops ⟨some d, .call { callee := .builtin .copy, args := #[x, y], argTypes := #[T, T2] }, ty, ps, af, none⟩ st ((st.set r (.row (putL cells 0 ((l.take m).map b8P)) e sz pub)).put d (.p (i64P (Nat.min l.length m : Nat)))) := by
  refine Step.val rfl fun a w ⟨φ, Pub, I, h0, hn, hsl⟩ => ?_
  subst hp
  have h := hx _ _ _ _ (ev_R (h := st.heap) hsl x)
  have hu := hy.p_ (ev_R (h := st.heap) hsl y)
  unfold bytesP RP at hu
  obtain ⟨ad, c0, e1, _, _, ha0, hu⟩ := hu
  obtain ⟨t1, t2⟩ := sl_of hT
  have hmin : (l.take m).length = Nat.min l.length m := by rw [List.length_take]; exact Nat.min_comm _ _
  have hR := b8_RPs (w := w) (Pub := Pub) (l.take m)
  have h1 : ∀ u ∈ (l.take m).map (fun c => Value.int .u8 (c.toNat : Int)), u.oneCell' = true := by
    intro u hu; rw [List.mem_map] at hu; obtain ⟨c, _, rfl⟩ := hu; rfl
  have k := I.own r
  have hl' : look OB.dead st.heap r = .row cells e sz 0 := hl
  rw [hl'] at k
  have hlen : (Builtin.lenOf (.slice ad l.length c0)).run P w = .ok l.length w := rfl
  have hml : ((l.take m).map fun c => Value.int .u8 (c.toNat : Int)).length = Nat.min l.length m * 1 := by rw [List.length_map, hmin, Nat.mul_one]
  have hfc : (Builtin.firstCells 1 (Nat.min l.length m) (.slice ad l.length c0)).run P w = .ok ((l.take m).map fun c => Value.int .u8 (c.toNat : Int)).toArray w := by
    cases ad with
    | none =>
      have hl0 : l = [] := by
        have := ha0 rfl
        exact List.eq_nil_of_length_eq_zero (by omega)
      subst hl0
      simp [Builtin.firstCells]
    | some ad =>
      refine run_firstCells_some w 1 _ ad _ _ _ hml fun j v hj => ?_
      rcases hu with h0 | ⟨b, o, e5, hc⟩
      · have hl0 : l = [] := List.eq_nil_of_length_eq_zero h0
        subst hl0; simp at hj
      · cases e5
        rw [List.getElem?_map, List.getElem?_take] at hj
        split at hj
        · cases hg : l[j]? with
          | none => rw [hg] at hj; cases hj
          | some q =>
            rw [hg] at hj
            obtain ⟨u, k1, _, _, k4⟩ := RPc_get hc (i := j) (x := b8P q) (by rw [List.getElem?_map, hg]; rfl)
            unfold b8P RP at k4
            cases hj; rw [k4] at k1
            rw [Addr.add_mid]; exact k1
        · cases hj
  unfold RA at h
  rcases h with ⟨b, c, e2, e3, e4⟩ | ⟨e2, rfl, e3⟩
  · rcases k with ⟨k0, _⟩ | ⟨b', c', cur, fr, k1, ⟨k2, k2'⟩, k3, k4, k5, k6, k7, k8⟩
    · rw [e2] at k0; cases k0
    rw [e2] at k1; cases k1
    have hlv : ((l.take m).map fun c => Value.int .u8 (c.toNat : Int)).length = Nat.min l.length m := by rw [List.length_map]; exact hmin
    have hmm : Nat.min l.length m ≤ m := Nat.min_le_right _ _
    obtain ⟨I', H⟩ := I.storeRow (o := 0) hl' e2 hR h1 (Nat.zero_le _) (by rw [List.length_map, hmin]; omega)
    refine ⟨_, _, ?_, Sat.put (u := goInt (Nat.min l.length m)) I' h0 hn (fun q => RA_mono H _ _ (fun _ _ => rfl) (hsl q)) hd (by unfold RA RP; rfl)⟩
    have hr := run_copy_own (P := P) (sT := T2) (ty := ty) (c := c) t1 t2 k2 k2' hlen hfc hlv (by rw [hlv]; omega) h1
    simp only [execOp, resolve, invoke, builtin, Sem.run_bind, Sem.run_pure, Result.andThen_ok, List.map_toArray, List.map_cons, List.map_nil, e1, e3, hr, hlv]
  · omega
theorem S_neg {x : Operand} {T : TypeId} {k : IntKind} {i r : Int} (hx : Gv (st.ev x) (.p (.v (.int k i)))) (hr : k.wrap (-i) = r) (hd : Nat.blt d n = true) :
    Step P E kp n ops ⟨some d, .unOp .neg T x, ty, ps, af, none⟩ st (st.put d (.p (.v (.int k r)))) :=
  S_pure _ rfl rfl hd fun a w φ Pub I hs => by
    have e1 := hx.v (hs x)
    exact ⟨.int k r, by simp [execOp, e1, Op.unary, Op.intArith, hr], by simp [RA, RP]⟩
theorem S_max8 {T1 T2 : TypeId} {x y : Operand} {i j : UInt8} (hx : Gv (st.ev x) (.p (b8P i))) (hy : Gv (st.ev y) (.p (.v (.int .u8 (j.toNat : Int))))) (hd : Nat.blt d n = true) (hty : P.underlying ty = some (.int .u8)) :
    Step P E kp n ops ⟨some d, .call { callee := .builtin .max, args := #[x, y], argTypes := #[T1, T2] }, ty, ps, af, none⟩ st (st.put d (.p (b8P (if i < j then j else i)))) :=
  S_call_pure _ hd fun a w φ Pub I hR => by
    have e1 := hx.v (hR x)
    have e2 := hy.v (hR y)
    refine ⟨.int .u8 ((if i < j then j else i).toNat : Int), ?_, by simp [RA, RP]⟩
    have e : ((if i < j then j else i).toNat : Int) = if (i.toNat : Int) < (j.toNat : Int) then (j.toNat : Int) else (i.toNat : Int) := by
      by_cases h : i < j
      · rw [if_pos h, if_pos (by have := UInt8.lt_iff_toNat_lt.1 h; omega)]
      · rw [if_neg h, if_neg (by intro h2; exact h (UInt8.lt_iff_toNat_lt.2 (by omega)))]
    rw [e]
    simp only [builtin, List.map_toArray, List.map_cons, List.map_nil, e1, e2]
    rfl
end
theorem bv8 (b : UInt8) : BitVec.ofInt 8 (b.toNat : Int) = b.toBitVec := by
  apply BitVec.eq_of_toNat_eq
  have := b.toNat_lt
  rw [BitVec.toNat_ofInt]; simp; omega
theorem u8xor (b c : UInt8) : IntKind.u8.wrap ((BitVec.ofInt IntKind.u8.bits (b.toNat : Int) ^^^ BitVec.ofInt IntKind.u8.bits (c.toNat : Int)).toNat : Int) = ((b ^^^ c).toNat : Int) := by
  show IntKind.u8.wrap ((BitVec.ofInt 8 (b.toNat : Int) ^^^ BitVec.ofInt 8 (c.toNat : Int)).toNat : Int) = _
  rw [bv8, bv8, ← UInt8.toBitVec_xor, u8w]
  have e : (b ^^^ c).toBitVec.toNat = (b ^^^ c).toNat := rfl
  rw [e, u8of_id]
theorem u8or (b c : UInt8) : IntKind.u8.wrap ((BitVec.ofInt IntKind.u8.bits (b.toNat : Int) ||| BitVec.ofInt IntKind.u8.bits (c.toNat : Int)).toNat : Int) = ((b ||| c).toNat : Int) := by
  show IntKind.u8.wrap ((BitVec.ofInt 8 (b.toNat : Int) ||| BitVec.ofInt 8 (c.toNat : Int)).toNat : Int) = _
  rw [bv8, bv8, ← UInt8.toBitVec_or, u8w]
  have e : (b ||| c).toBitVec.toNat = (b ||| c).toNat := rfl
  rw [e, u8of_id]
theorem u8and (b c : UInt8) : IntKind.u8.wrap ((BitVec.ofInt IntKind.u8.bits (b.toNat : Int) &&& BitVec.ofInt IntKind.u8.bits (c.toNat : Int)).toNat : Int) = ((b &&& c).toNat : Int) := by
  show IntKind.u8.wrap ((BitVec.ofInt 8 (b.toNat : Int) &&& BitVec.ofInt 8 (c.toNat : Int)).toNat : Int) = _
  rw [bv8, bv8, ← UInt8.toBitVec_and, u8w]
  have e : (b &&& c).toBitVec.toNat = (b &&& c).toNat := rfl
  rw [e, u8of_id]
theorem putL_map (l : List UInt8) (i : Nat) (x : UInt8) : putL (l.map b8P) i [b8P x] = (l.set i x).map b8P := by
  show (l.map b8P).set i (b8P x) = _
  rw [List.map_set]
theorem putL_copy {α : Type} (xs l : List α) (h : xs.length ≤ l.length) : putL l 0 xs = xs ++ l.drop xs.length := by
  have h2 := putL_app xs 0 l (by omega)
  apply List.ext_getElem?
  intro i
  rcases Nat.lt_or_ge i xs.length with hi | hi
  · have := congrArg (fun q => q[i]?) h2
    simp only [Nat.zero_add, List.take_zero, List.nil_append] at this
    rw [List.getElem?_take, if_pos hi] at this
    rw [this, List.getElem?_append_left hi]
  · rw [List.getElem?_append_right hi, List.getElem?_drop, show xs.length + (i - xs.length) = i from by omega]
    have : ∀ (xs : List α) (o : Nat) (l : List α) (i : Nat), o + xs.length ≤ i → (putL l o xs)[i]? = l[i]? := by
      intro xs
      induction xs with
      | nil => intro o l i _; rfl
      | cons x xs ih =>
        intro o l i hi
        show (putL (l.set o x) (o + 1) xs)[i]? = _
        rw [ih (o + 1) _ i (by simp at hi; omega), List.getElem?_set_ne (by simp at hi; omega)]
    exact this xs 0 l i (by omega)

/-! ### From a contract to a call from anywhere -/
end Go.Proofs.YtcebndkiagbddaaGreatDoor

/- A region that draws its order, with one late operation: it may come early, or beside the stores. It names no function of the program. -/
namespace Go.Proofs.YtcebndkiagbddaaGreatDoor
open Go.RowKit
set_option linter.unusedVariables false
set_option linter.unusedSimpArgs false

section
variable {P : Program} {ops : Array Oper} {Q : Exit → Act → World → Prop}
end
section
variable {P : Program} {E : Env} {kp : List Nat} {n : Nat} {ops : Array Oper} {Q : Exit → Act → World → Prop} {base st st' : AS}
theorem AP.one (k i : Nat) {fuel : Nat} {o ok : Oper} {l1 l2 : Array Bool} {st1 st1' st2 st2' stk : AS} (hr1 : (Region.ready .any ops l1).all (fun j => Nat.beq j i || Nat.beq j k) = true) (hr3 : (Region.ready .any ops l1).isEmpty = false) (hr2 : Region.ready .any ops l2 = [i]) (hl : l1.setIfInBounds k true = l2) (hi : ops[i]? = some o) (hk : ops[k]? = some ok)
    (h1 : Step P E kp n ops o st1 st1') (h2 : Step P E kp n ops o st2 st2') (h3 : Step P E kp n ops ok st1 stk) (hw : Wk E kp n stk st2)
    (K : AD P E kp n ops Q (fuel + 1) (l1.setIfInBounds i true) st1' ∧ AD P E kp n ops Q fuel (l2.setIfInBounds i true) st2') : AD P E kp n ops Q (fuel + 2) l1 st1 ∧ AD P E kp n ops Q (fuel + 1) l2 st2 := by
  have second : AD P E kp n ops Q (fuel + 1) l2 st2 := AD.one hr2 hi h2 K.2
  refine ⟨fun a w hs => ⟨(fun h0 => by rw [h0] at hr3; cases hr3), fun j hj => ?_⟩, second⟩
  have hj2 := List.all_eq_true.1 hr1 j hj
  rw [Bool.or_eq_true] at hj2
  by_cases hji : j = i
  · subst hji
    exact wpOp_step hi fun K' hK => h1 a w K' Q hs fun a' w' hs' => hK _ _ (K.1 a' w' hs')
  · have hjk : j = k := by
      rcases hj2 with h | h
      · exact absurd (Nat.eq_of_beq_eq_true h) hji
      · exact Nat.eq_of_beq_eq_true h
    subst hjk
    exact wpOp_step hk fun K' hK => h3 a w K' Q hs fun a' w' hs' => hK _ _ (by rw [hl]; exact second a' w' (hw a' w' hs'))
end
end Go.Proofs.YtcebndkiagbddaaGreatDoor

/- Arrays as values; structs compared; words turned over; pointers against nil. It names no function of the program. -/
namespace Go.Proofs.YtcebndkiagbddaaGreatDoor
open Go.RowKit
set_option linter.unusedVariables false
set_option linter.unusedSimpArgs false

/-! ### Structs compared -/
inductive CK where
  | i (k : IntKind) | b | s
def CK.ok : CK → Value → Prop
  | .i k, .int k' _ => k' = k
  | .b, .bool _ => True
  | .s, .string _ => True
  | _, _ => False
def okL : List CK → List Value → Prop
  | [], [] => True
  | k :: ks, u :: us => k.ok u ∧ okL ks us
  | _, _ => False
def eqCell : Value → Value → Bool
  | .int _ a, .int _ b => a == b
  | .bool a, .bool b => a == b
  | .string a, .string b => a.toList == b.toList
  | _, _ => true
def eqCells : List Value → List Value → Bool
  | a :: as, b :: bs => eqCell a b && eqCells as bs
  | _, _ => true
def flatF (P : Program) (rec : TypeId → Option (List CK)) : List Field → Nat → Option (List CK)
  | [], _ => some []
  | f :: fs, o => if f.name ≠ "_" ∧ f.offset = o then (match rec f.type with
    | some ks => if szOf P f.type = some ks.length then (flatF P rec fs (o + ks.length)).map (ks ++ ·) else none
    | none => none) else none
def flatK (P : Program) : Nat → TypeId → Option (List CK)
  | 0, _ => none
  | d + 1, t => match P.underlying t with
    | some .bool => some [.b]
    | some (.int k) => some [.i k]
    | some .string => some [.s]
    | some (.struct fs) => if P.stoodInHeld t then none else flatF P (flatK P d) fs.toList 0
    | _ => none
theorem okL_length : ∀ {ks : List CK} {us : List Value}, okL ks us → us.length = ks.length
  | [], [], _ => rfl
  | k :: ks, u :: us, h => by simp [okL_length h.2]
  | [], _ :: _, h => by cases h
  | _ :: _, [], h => by cases h
theorem okL_split : ∀ {ks ks' : List CK} {us : List Value}, okL (ks ++ ks') us → okL ks (us.take ks.length) ∧ okL ks' (us.drop ks.length)
  | [], ks', us, h => by simpa [okL] using h
  | k :: ks, ks', u :: us, h => by
    obtain ⟨h1, h2⟩ := okL_split (ks := ks) (ks' := ks') (us := us) h.2
    exact ⟨⟨h.1, h1⟩, h2⟩
  | k :: ks, ks', [], h => by cases h
theorem eqCells_app : ∀ {as bs cs ds : List Value}, as.length = bs.length → eqCells (as ++ cs) (bs ++ ds) = (eqCells as bs && eqCells cs ds)
  | [], [], cs, ds, _ => by simp [eqCells]
  | a :: as, b :: bs, cs, ds, h => by
    simp only [List.cons_append, eqCells, eqCells_app (as := as) (bs := bs) (by simpa using h), Bool.and_assoc]
  | [], _ :: _, _, _, h => by simp at h
  | _ :: _, [], _, _, h => by simp at h
section
variable {P : Program} {w : World}
/-- A value of a type, with these cells. -/
def IsPk (P : Program) (t : TypeId) (us : List Value) (v : Value) : Prop := match aggOf P t with
  | some true => v = .agg us.toArray
  | _ => us = [v]
theorem part_pk {t : TypeId} {ks : List CK} {xs : List Value} {off d : Nat} (hk : flatK P d t = some ks) (hs : szOf P t = some ks.length) (hx : okL ks ((xs.drop off).take ks.length)) :
    ∃ v, (part t xs.toArray off).run P w = .ok v w ∧ IsPk P t ((xs.drop off).take ks.length) v := by
  cases d with
  | zero => simp [flatK] at hk
  | succ d =>
    have hlen := okL_length hx
    have one : ∀ k : CK, ks = [k] → ∃ v, xs[off]? = some v ∧ (xs.drop off).take ks.length = [v] := fun k e => by
      subst e
      simp only [List.length_cons, List.length_nil, Nat.zero_add] at hlen ⊢
      cases hq : xs[off]? with
      | none =>
        rw [List.getElem?_eq_none_iff] at hq
        rw [List.length_take, List.length_drop] at hlen; omega
      | some v =>
        obtain ⟨h1, h2⟩ := List.getElem?_eq_some_iff.1 hq
        refine ⟨v, rfl, ?_⟩
        rw [List.drop_eq_getElem_cons h1, h2]; rfl
    unfold flatK at hk
    cases hu : P.underlying t with
    | none => rw [hu] at hk; cases hk
    | some td =>
      rw [hu] at hk
      have row : td.isRow = false → ∀ k : CK, ks = [k] → ∃ v, (part t xs.toArray off).run P w = .ok v w ∧ IsPk P t ((xs.drop off).take ks.length) v := fun hr k e => by
        obtain ⟨v, h1, h2⟩ := one k e
        have ha : aggOf P t = some false := by unfold aggOf; rw [hu, Option.map_some, hr]
        refine ⟨v, ?_, by unfold IsPk; rw [ha]; exact h2⟩
        unfold part
        rw [Sem.run_bind, run_isAgg ha]
        simp [h1]
      cases td <;> simp only [reduceCtorEq] at hk
      case bool => exact row rfl _ (by cases hk; rfl)
      case int => exact row rfl _ (by cases hk; rfl)
      case string => exact row rfl _ (by cases hk; rfl)
      case struct fs =>
        have ha : aggOf P t = some true := by unfold aggOf; rw [hu]; rfl
        refine ⟨.agg (xs.toArray.extract off (off + ks.length)), ?_, ?_⟩
        · unfold part
          rw [Sem.run_bind, run_isAgg ha]
          simp only [Result.andThen_ok, if_true, Sem.run_bind, run_sizeOf hs, Sem.run_pure]
        · unfold IsPk; rw [ha]
          show Value.agg _ = Value.agg _
          congr 1
          apply Array.ext'
          simp [List.extract_eq_take_drop]
theorem flat_run : ∀ (d : Nat) {t : TypeId} {ks : List CK}, flatK P d t = some ks → ∀ (D : Nat), d ≤ D → ∀ {us vs : List Value} {a b : Value} {w : World}, okL ks us → okL ks vs → IsPk P t us a → IsPk P t vs b →
    (Op.equalIn D t a b).run P w = .ok (eqCells us vs) w
  | 0, t, ks, hk, D, hD, us, vs, a, b, w, hu', hv', ha, hb => by simp [flatK] at hk
  | d + 1, t, ks, hk, D, hD, us, vs, a, b, w, hu', hv', ha, hb => by
    obtain ⟨D, rfl⟩ : ∃ D', D = D' + 1 := ⟨D - 1, by omega⟩
    unfold flatK at hk
    cases hu : P.underlying t with
    | none => rw [hu] at hk; cases hk
    | some td =>
      rw [hu] at hk
      have cell : td.isRow = false → ∀ k : CK, ks = [k] → us = [a] ∧ vs = [b] ∧ k.ok a ∧ k.ok b := fun hr k e => by
        have hg : aggOf P t = some false := by unfold aggOf; rw [hu, Option.map_some, hr]
        unfold IsPk at ha hb
        rw [hg] at ha hb
        subst ha hb e
        exact ⟨rfl, rfl, hu'.1, hv'.1⟩
      cases td <;> simp only [reduceCtorEq] at hk
      case bool =>
        cases hk
        obtain ⟨rfl, rfl, h1, h2⟩ := cell rfl .b rfl
        cases a <;> cases b <;> simp only [CK.ok] at h1 h2
        rw [run_equalIn_bool' w D t _ _ hu]; simp [eqCells, eqCell]
      case int k =>
        cases hk
        obtain ⟨rfl, rfl, h1, h2⟩ := cell rfl (.i k) rfl
        cases a <;> cases b <;> simp only [CK.ok] at h1 h2
        subst h1 h2
        rw [run_equalIn_int w D t _ _ _ _ hu]; simp [eqCells, eqCell]
      case string =>
        cases hk
        obtain ⟨rfl, rfl, h1, h2⟩ := cell rfl .s rfl
        cases a <;> cases b <;> simp only [CK.ok] at h1 h2
        rw [run_equalIn_string w D t _ _ hu]; simp [eqCells, eqCell]
      case struct fs =>
        cases hp : P.stoodInHeld t with
        | true => rw [hp] at hk; simp at hk
        | false =>
          rw [hp] at hk
          simp only [Bool.false_eq_true, if_false] at hk
          have hg : aggOf P t = some true := by unfold aggOf; rw [hu]; rfl
          unfold IsPk at ha hb
          rw [hg] at ha hb
          subst ha hb
          have hfo : P.fieldsOf t = fs := by unfold Program.fieldsOf; rw [hu]
          rw [run_equalIn_struct w D t _ _ (by rw [hfo]; exact hu) hp, hfo]
          have key : ∀ (l : List Field) (o : Nat) (ks : List CK), flatF P (flatK P d) l o = some ks → okL ks (us.drop o) → okL ks (vs.drop o) → (Op.eqFields D us.toArray vs.toArray l).run P w = .ok (eqCells (us.drop o) (vs.drop o)) w := by
            intro l
            induction l with
            | nil =>
              intro o ks h k1 k2
              cases h
              have e1 := okL_length k1
              rw [List.eq_nil_of_length_eq_zero e1]
              simp [Op.eqFields, eqCells]
            | cons f l ih =>
              intro o ks h k1 k2
              unfold flatF at h
              split at h
              · next hn =>
                split at h
                · next kf hf =>
                  split at h
                  · next hz =>
                    cases hq : flatF P (flatK P d) l (o + kf.length) with
                    | none => rw [hq] at h; cases h
                    | some kr =>
                      rw [hq] at h; cases h
                      obtain ⟨a1, a2⟩ := okL_split k1
                      obtain ⟨b1, b2⟩ := okL_split k2
                      rw [List.drop_drop] at a2 b2
                      obtain ⟨va, p1, p2⟩ := part_pk (w := w) (xs := us) (off := o) hf hz a1
                      obtain ⟨vb, q1, q2⟩ := part_pk (w := w) (xs := vs) (off := o) hf hz b1
                      have hr := flat_run d hf D (by omega) (w := w) a1 b1 p2 q2
                      simp only [Op.eqFields, hn.1, ne_eq, not_false_eq_true, if_true, Sem.run_bind, hn.2, p1, q1, hr, Result.andThen_ok]
                      have ec : eqCells (us.drop o) (vs.drop o) = (eqCells ((us.drop o).take kf.length) ((vs.drop o).take kf.length) && eqCells (us.drop (o + kf.length)) (vs.drop (o + kf.length))) := by
                        have l1 := okL_length a1; have l2 := okL_length b1
                        rw [← eqCells_app (by rw [l1, l2]), ← List.drop_drop, ← List.drop_drop, List.take_append_drop, List.take_append_drop]
                      rw [ec]
                      cases eqCells ((us.drop o).take kf.length) ((vs.drop o).take kf.length) with
                      | false => simp
                      | true => simpa using ih (o + kf.length) kr hq a2 b2
                  · cases h
                · cases h
              · cases h
          simpa using key fs.toList 0 ks hk (by simpa using hu') (by simpa using hv')
end
def valsA : List AV → Option (List Value)
  | [] => some []
  | .p (.v u) :: l => (valsA l).map (u :: ·)
  | _ => none
theorem valsA_R {w : World} {Pub : Nat → Nat → Prop} {φ : Ghost} : ∀ {l : List AV} {us vs : List Value}, valsA l = some us → RAs w Pub φ l vs → vs = us
  | [], us, vs, h, k => by cases h; unfold RAs at k; exact k
  | x :: l, us, vs, h, k => by
    unfold RAs at k
    obtain ⟨u, us', rfl, k1, k2⟩ := k
    unfold valsA at h
    split at h
    · next e => cases e
    · next u' l' e =>
      cases e
      cases hq : valsA l with
      | none => rw [hq] at h; cases h
      | some q =>
        rw [hq] at h; cases h
        unfold RA RP at k1
        rw [valsA_R hq k2, k1]
    · cases h
section
variable {P : Program} {E : Env} {kp : List Nat} {n : Nat} {ops : Array Oper} {st : AS} {d : Nat} {ty : TypeId} {ps : String} {af : Array Edge}
theorem S_eqAgg {T T' : TypeId} {x y : Operand} {xs ys : List AV} {us vs : List Value} {ks : List CK} {D : Nat} (hx : Gv (st.ev x) (.agg xs)) (hy : Gv (st.ev y) (.agg ys)) (h1 : valsA xs = some us) (h2 : valsA ys = some vs)
    (hD : D ≤ 10000) (hk : flatK P D T = some ks) (ha : aggOf P T = some true) (hg : P.eqGuardType P.depth T = false) (o1 : okL ks us) (o2 : okL ks vs) (hd : Nat.blt d n = true) :
    Step P E kp n ops ⟨some d, .binOp .eql T x y T', ty, ps, af, none⟩ st (st.put d (.p (.v (.bool (eqCells us vs))))) :=
  S_pure _ rfl rfl hd fun a w φ Pub I hR => by
    have k1 := hx _ _ _ _ (hR x); have k2 := hy _ _ _ _ (hR y)
    unfold RA at k1 k2
    obtain ⟨u, e1, k1⟩ := k1; obtain ⟨v, e2, k2⟩ := k2
    rw [valsA_R h1 k1] at e1; rw [valsA_R h2 k2] at e2
    refine ⟨.bool (eqCells us vs), ?_, by simp [RA, RP]⟩
    have hr := flat_run (w := w) D hk 10000 hD o1 o2 (a := .agg us.toArray) (b := .agg vs.toArray) (by unfold IsPk; rw [ha]) (by unfold IsPk; rw [ha])
    simp only [execOp, e1, e2, Sem.run_bind, run_eqGuard_agg w _ _ _ _ _ _ hg, Result.andThen_ok, run_eql_struct, hr, Sem.run_pure]
theorem S_neAgg {T T' : TypeId} {x y : Operand} {xs ys : List AV} {us vs : List Value} {ks : List CK} {D : Nat} (hx : Gv (st.ev x) (.agg xs)) (hy : Gv (st.ev y) (.agg ys)) (h1 : valsA xs = some us) (h2 : valsA ys = some vs)
    (hD : D ≤ 10000) (hk : flatK P D T = some ks) (ha : aggOf P T = some true) (hg : P.eqGuardType P.depth T = false) (o1 : okL ks us) (o2 : okL ks vs) (hd : Nat.blt d n = true) :
    Step P E kp n ops ⟨some d, .binOp .neq T x y T', ty, ps, af, none⟩ st (st.put d (.p (.v (.bool (!eqCells us vs))))) :=
  S_pure _ rfl rfl hd fun a w φ Pub I hR => by
    have k1 := hx _ _ _ _ (hR x); have k2 := hy _ _ _ _ (hR y)
    unfold RA at k1 k2
    obtain ⟨u, e1, k1⟩ := k1; obtain ⟨v, e2, k2⟩ := k2
    rw [valsA_R h1 k1] at e1; rw [valsA_R h2 k2] at e2
    refine ⟨.bool (!eqCells us vs), ?_, by simp [RA, RP]⟩
    have hr := flat_run (w := w) D hk 10000 hD o1 o2 (a := .agg us.toArray) (b := .agg vs.toArray) (by unfold IsPk; rw [ha]) (by unfold IsPk; rw [ha])
    simp only [execOp, e1, e2, Sem.run_bind, run_eqGuard_agg w _ _ _ _ _ _ hg, Result.andThen_ok, run_neq_struct, hr, Sem.run_pure]

/-! ### Words turned over -/
theorem S_inv {x : Operand} {T : TypeId} {k : IntKind} {i r : Int} (hx : Gv (st.ev x) (.p (.v (.int k i)))) (hr : k.wrap ((BitVec.ofInt k.bits (if k.signed then -1 else k.max) ^^^ BitVec.ofInt k.bits i).toNat : Int) = r) (hd : Nat.blt d n = true) :
    Step P E kp n ops ⟨some d, .unOp .xor T x, ty, ps, af, none⟩ st (st.put d (.p (.v (.int k r)))) :=
  S_pure _ rfl rfl hd fun a w φ Pub I hs => by
    have e1 := hx.v (hs x)
    exact ⟨.int k r, by simp only [execOp, e1, Op.unary, Op.intBits, hr]; simp, by simp [RA, RP]⟩

theorem beqS (l m : List UInt8) : (((⟨l.toArray⟩ : ByteArray).toList == (⟨m.toArray⟩ : ByteArray).toList)) = decide (l = m) := by
  rw [ba_toList, ba_toList, beq_dec]
theorem S_minS {T1 T2 : TypeId} {x y : Operand} {l m : List UInt8} (hx : Gv (st.ev x) (.p (strP l))) (hy : Gv (st.ev y) (.p (strP m))) (hd : Nat.blt d n = true) :
    Step P E kp n ops ⟨some d, .call { callee := .builtin .min, args := #[x, y], argTypes := #[T1, T2] }, ty, ps, af, none⟩ st (st.put d (.p (strP (bif Op.bytesLess l m || decide (l = m) then l else m)))) :=
  S_call_pure _ hd fun a w φ Pub I hR => by
    have e1 := hx.v (hR x)
    have e2 := hy.v (hR y)
    refine ⟨.string ⟨(bif Op.bytesLess l m || decide (l = m) then l else m).toArray⟩, ?_, by simp [RA, RP]⟩
    simp only [builtin, List.map_toArray, List.map_cons, List.map_nil, e1, e2]
    have h : (Builtin.min2 (.string ⟨l.toArray⟩) (.string ⟨m.toArray⟩)).run P w = .ok (.string ⟨(bif Op.bytesLess l m || decide (l = m) then l else m).toArray⟩) w := by
      simp only [Builtin.min2, Op.stringOp, ba_toList, beq_dec]
      cases hq : (Op.bytesLess l m || decide (l = m)) <;> simp [asBool, hq]
    simp only [Builtin.min_, List.foldlM_cons, List.foldlM_nil, Sem.run_bind, h, Result.andThen_ok, Sem.run_pure]
theorem S_maxS {T1 T2 : TypeId} {x y : Operand} {l m : List UInt8} (hx : Gv (st.ev x) (.p (strP l))) (hy : Gv (st.ev y) (.p (strP m))) (hd : Nat.blt d n = true) :
    Step P E kp n ops ⟨some d, .call { callee := .builtin .max, args := #[x, y], argTypes := #[T1, T2] }, ty, ps, af, none⟩ st (st.put d (.p (strP (bif Op.bytesLess l m then m else l)))) :=
  S_call_pure _ hd fun a w φ Pub I hR => by
    have e1 := hx.v (hR x)
    have e2 := hy.v (hR y)
    refine ⟨.string ⟨(bif Op.bytesLess l m then m else l).toArray⟩, ?_, by simp [RA, RP]⟩
    simp only [builtin, List.map_toArray, List.map_cons, List.map_nil, e1, e2]
    have h : (Builtin.max2 (.string ⟨l.toArray⟩) (.string ⟨m.toArray⟩)).run P w = .ok (.string ⟨(bif Op.bytesLess l m then m else l).toArray⟩) w := by
      simp only [Builtin.max2, Op.stringOp, ba_toList, beq_dec]
      cases hq : (Op.bytesLess l m) <;> simp [asBool, hq]
    simp only [Builtin.max_, List.foldlM_cons, List.foldlM_nil, Sem.run_bind, h, Result.andThen_ok, Sem.run_pure]
theorem S_strGt {T T' : TypeId} {x y : Operand} {l m : List UInt8} (hx : Gv (st.ev x) (.p (strP l))) (hy : Gv (st.ev y) (.p (strP m))) (hd : Nat.blt d n = true) :
    Step P E kp n ops ⟨some d, .binOp .gtr T x y T', ty, ps, af, none⟩ st (st.put d (.p (boolP (!(Op.bytesLess l m || decide (l = m)))))) := S_strCmp hx hy hd fun w => by
  simp only [eqGuard, binOp, Op.stringOp, ba_toList, beq_dec]; rfl
theorem S_strGe {T T' : TypeId} {x y : Operand} {l m : List UInt8} (hx : Gv (st.ev x) (.p (strP l))) (hy : Gv (st.ev y) (.p (strP m))) (hd : Nat.blt d n = true) :
    Step P E kp n ops ⟨some d, .binOp .geq T x y T', ty, ps, af, none⟩ st (st.put d (.p (boolP (!Op.bytesLess l m)))) := S_strCmp hx hy hd fun w => by
  simp only [eqGuard, binOp, Op.stringOp, ba_toList, beq_dec]; rfl

/-! ### Pointers against nil -/
def isPtr (b : Bool) (x : AV) : Prop := ∀ w Pub φ u, RA w Pub φ x u → ∃ p : Option Addr, u = .pointer p ∧ p.isNone = b
theorem S_eqNil {T T' e : TypeId} {x y : Operand} {b : Bool} (hx : isPtr b (st.ev x)) (hy : Gv (st.ev y) (.p (.v (.pointer none)))) (hu : P.underlying T = some (.pointer e)) (hd : Nat.blt d n = true) :
    Step P E kp n ops ⟨some d, .binOp .eql T x y T', ty, ps, af, none⟩ st (st.put d (.p (.v (.bool b)))) :=
  S_pure _ rfl rfl hd fun a w φ Pub I hR => by
    obtain ⟨p, e1, hp⟩ := hx _ _ _ _ (hR x)
    have e2 := hy.v (hR y)
    refine ⟨.bool b, ?_, by simp [RA, RP]⟩
    have hpe : P.pointee T = e := by unfold Program.pointee; rw [hu]
    simp only [execOp, e1, e2, eqGuard]
    simp [run_eql_pointer_nil w T p (by rw [hpe]; exact hu), hp]
theorem S_neNil {T T' e : TypeId} {x y : Operand} {b : Bool} (hx : isPtr b (st.ev x)) (hy : Gv (st.ev y) (.p (.v (.pointer none)))) (hu : P.underlying T = some (.pointer e)) (hd : Nat.blt d n = true) :
    Step P E kp n ops ⟨some d, .binOp .neq T x y T', ty, ps, af, none⟩ st (st.put d (.p (.v (.bool (!b))))) :=
  S_pure _ rfl rfl hd fun a w φ Pub I hR => by
    obtain ⟨p, e1, hp⟩ := hx _ _ _ _ (hR x)
    have e2 := hy.v (hR y)
    refine ⟨.bool (!b), ?_, by simp [RA, RP]⟩
    have hpe : P.pointee T = e := by unfold Program.pointee; rw [hu]
    simp only [execOp, e1, e2, eqGuard]
    simp [run_neq_pointer_nil w T p (by rw [hpe]; exact hu), hp]

/-! ### Bytes of a constant string -/
theorem heap_freeze_other (w : World) (a : Addr) (m k : Nat) (hk : k ≠ a.block) : (w.freeze a m).heap[k]? = w.heap[k]? := by
  unfold World.freeze
  split
  · rfl
  · simp only [Array.getElem?_modify]
    rw [if_neg (Ne.symm hk)]
theorem heap_freeze_same {w : World} {a : Addr} {m : Nat} {cur : Array Value} {t : TypeId} {lo hi : Nat} (hb : w.heap[a.block]? = some (.cells cur t (lo, hi))) (hm : m ≠ 0) :
    (w.freeze a m).heap[a.block]? = some (.cells cur t (if lo == hi then (a.off, a.off + m) else (min lo a.off, max hi (a.off + m)))) := by
  unfold World.freeze
  rw [if_neg hm]
  simp only [Array.getElem?_modify, if_true, hb, Option.map_some]
theorem size_freeze (w : World) (a : Addr) (m : Nat) : (w.freeze a m).heap.size = w.heap.size := by
  unfold World.freeze
  split
  · rfl
  · simp
theorem cell_freeze (w : World) (a : Addr) (m : Nat) (k i : Nat) : (w.freeze a m).cell? ⟨k, i, none⟩ = w.cell? ⟨k, i, none⟩ := by
  unfold World.cell?
  by_cases hk : k = a.block
  · subst hk
    by_cases hm : m = 0
    · unfold World.freeze; rw [if_pos hm]
    · cases hb : w.heap[a.block]? with
      | none =>
        have : (w.freeze a m).heap[a.block]? = none := by
          unfold World.freeze; rw [if_neg hm]
          simp only [Array.getElem?_modify, if_true, hb, Option.map_none]
        simp only [this]
      | some o =>
        cases o with
        | cells cur t fr => rw [heap_freeze_same (lo := fr.1) (hi := fr.2) hb hm]
        | _ =>
          have : (w.freeze a m).heap[a.block]? = w.heap[a.block]? := by
            unfold World.freeze; rw [if_neg hm]
            simp only [Array.getElem?_modify, if_true, hb, Option.map_some]
          rw [this, hb]
  · rw [heap_freeze_other _ _ _ _ hk]
theorem streams_freeze (w : World) (a : Addr) (m : Nat) : (w.freeze a m).os = w.os ∧ (w.freeze a m).tape = w.tape ∧ (w.freeze a m).output = w.output := by
  unfold World.freeze; split <;> exact ⟨rfl, rfl, rfl⟩
/-- Something about a block of the call's own that no cell shows. -/
theorem Inv.touch {φ : Ghost} {Pub : Nat → Nat → Prop} {h : List (Nat × OB)} {w w' : World} (I : Inv E kp φ Pub h w) {r b c : Nat} (ha : (look OB.dead h r).alive = true) (hr : φ r = some (b, c)) (s1 : w'.os = w.os) (s2 : w'.tape = w.tape) (s3 : w'.output = w.output)
    (hsz : w'.heap.size = w.heap.size) (hoth : ∀ k, k ≠ b → w'.heap[k]? = w.heap[k]?) (hcell : ∀ k i, w'.cell? ⟨k, i, none⟩ = w.cell? ⟨k, i, none⟩) (hob : Hp w' Pub φ r (look OB.dead h r)) : Inv E kp φ Pub h w' := by
  have hm := I.mine r b c ha hr
  have H : Adv w Pub w' Pub := fun k i hp => ⟨hp, hcell k i⟩
  refine I.next s1 s2 s3 (by rw [hsz]; exact Nat.le_refl _) (fun k hk hA => hoth k (fun e => by
      subst e
      rcases hm with hm | hm
      · omega
      · exact hA hm)) H (fun _ _ hp => .inl hp) (fun k i hk => by rw [hsz]; exact I.publ k i hk) (fun q hq => ?_) (fun q k c' hq hk => I.mine q k c' hq hk) (fun q q' k c1 c2 hq hq' hk hk' => I.inj q q' k c1 c2 hq hq' hk hk') (fun _ _ => rfl)
  by_cases e : r = q
  · subst e; exact hob
  · refine Hp_keep H (fun k c' hk => ⟨hoth k (fun e2 => ?_), fun i hi => hi⟩) rfl (fun _ _ => rfl) (I.own q)
    subst e2
    exact e (I.inj r q _ _ _ ha hq hr hk)
theorem S_markStr {T e : TypeId} {x : Operand} {r m sz pub : Nat} {cells : List PV} {t : TypeId} (hx : Gv (st.ev x) (.osl r m)) (hl : st.ob r = .row cells t sz pub) (h1 : P.underlying T = some (.slice e)) (h3 : P.underlying e = some (.int .u8)) (hm : 0 < m) (ht : t = 5) (hd : Nat.blt d n = true) :
    Step P E kp n ops ⟨some d, .convert T T x, ty, ps, af, none⟩ st (st.put d (.osl r m)) := by
  refine Step.val rfl fun a w ⟨φ, Pub, I, h0, hn, hsl⟩ => ?_
  have hv := hx _ _ _ _ (ev_R (h := st.heap) hsl x)
  have hv' := hv
  unfold RA at hv
  rcases hv with ⟨b, c, e0, ev, hc⟩ | ⟨_, hz, _⟩
  · have hl' : look OB.dead st.heap r = .row cells t sz pub := hl
    have k := I.own r
    rw [hl'] at k
    rcases k with ⟨k0, _⟩ | ⟨b', c', cur, fr, k1, ⟨k2, k2'⟩, k3, k4, k5, k6, k7, k8⟩
    · rw [e0] at k0; cases k0
    · rw [e0] at k1; cases k1
      obtain ⟨lo, hi⟩ := fr
      obtain ⟨s1, s2, s3⟩ := streams_freeze w ⟨b, cur.size, none⟩ 1
      have hb2 := heap_freeze_same (a := ⟨b, cur.size, none⟩) k2 (m := 1) (by decide)
      have hcell : ∀ k i, (w.freeze ⟨b, cur.size, none⟩ 1).cell? ⟨k, i, none⟩ = w.cell? ⟨k, i, none⟩ := fun k i => cell_freeze w _ 1 k i
      have H : Adv w Pub (w.freeze ⟨b, cur.size, none⟩ 1) Pub := fun k i hp => ⟨hp, hcell k i⟩
      have I' : Inv E kp φ Pub st.heap (w.freeze ⟨b, cur.size, none⟩ 1) := by
        refine I.touch (by rw [hl']; rfl) e0 s1 s2 s3 (size_freeze _ _ _) (fun k hk => heap_freeze_other w _ 1 k hk) hcell ?_
        rw [hl']
        refine .inr ⟨b, c, cur, _, e0, ⟨hb2, ?_⟩, k3, k4, k5, RPs_mono H _ _ k6, k7, k8⟩
        unfold FrOk at k2' ⊢
        by_cases hq : (lo == hi) = true
        · rw [if_pos hq]; exact .inr ⟨Nat.le_refl _, ht⟩
        · rw [if_neg hq]
          rcases k2' with k2' | k2'
          · cases k2'; simp at hq
          · exact .inr ⟨by have := k2'.1; simp only at this ⊢; omega, ht⟩
      refine ⟨a.eval x, _, ?_, Sat.put I' h0 hn (fun s => RA_mono H _ _ (fun _ _ => rfl) (hsl s)) hd (RA_mono H _ _ (fun _ _ => rfl) hv')⟩
      have hsh : w.shape? b = some (t, cur.size) := by unfold World.shape?; rw [k2]
      simp only [execOp, ev, convert, Sem.run_bind, run_underlying h1, Result.andThen_ok, run_underlying h3, beq_self_eq_true, markStringish, run_shape, hsh, run_freeze, Sem.run_pure]
  · omega

/-! ### Array literals -/
theorem S_buildAr {T : TypeId} {parts : List (Nat × Operand)} {m s : Nat} {z : List Value} {out : List AV} (hT : arOf P T = some (m, s)) (hz : zeOf P T = some z) (hf : fillA ((List.range m).map fun i => (i * s, s)) (boxV z) (parts.map fun p => (p.1, st.ev p.2)) = some out) (hd : Nat.blt d n = true) :
    Step P E kp n ops ⟨some d, .build T parts.toArray, ty, ps, af, none⟩ st (st.put d (.agg out)) :=
  S_pure _ rfl rfl hd fun a w φ Pub I hR => by
    obtain ⟨e, hu, hs⟩ := ar_of hT
    obtain ⟨v, hv, hc⟩ := run_zeroCells hz w
    obtain ⟨cur', h1, h2⟩ := fill_R (place := fun i => some (i * s, s)) (a := a) (fun i os hos => by
      rw [List.getElem?_map] at hos
      cases hq : (List.range m)[i]? with
      | none => rw [hq] at hos; cases hos
      | some j =>
        rw [hq] at hos
        obtain ⟨_, e⟩ := List.getElem?_eq_some_iff.1 hq
        rw [List.getElem_range] at e
        subst e; exact hos) (us := parts.map fun p => (p.1, a.eval p.2)) (cur := z.toArray) hf (RAs_vals z) (by simp) (fun j i x hj => by
      rw [List.getElem?_map] at hj ⊢
      cases hq : parts[j]? with
      | none => rw [hq] at hj; cases hj
      | some p =>
        rw [hq] at hj
        simp only [Option.map_some, Option.some.injEq, Prod.mk.injEq] at hj
        obtain ⟨rfl, rfl⟩ := hj
        exact ⟨a.eval p.2, rfl, hR p.2⟩)
    refine ⟨.agg cur', ?_, by unfold RA; exact ⟨cur'.toList, by simp, h2⟩⟩
    have hr : (Instr.build T (parts.toArray.map fun (i, x) => (i, a.eval x))).run P w = .ok (.agg cur') w := by
      unfold Instr.build
      simp only [Sem.run_bind, hv, hc, Result.andThen_ok, run_underlying hu, run_sizeOf hs]
      have e : (parts.toArray.map fun (p : Nat × Operand) => (p.1, a.eval p.2)).toList = parts.map fun p => (p.1, a.eval p.2) := by simp
      rw [e, h1]; rfl
    simp only [execOp]
    rw [Sem.run_bind]
    exact (by rw [hr]; rfl)
end
end Go.Proofs.YtcebndkiagbddaaGreatDoor

/- Maps of nets, and iterators over them, among the blocks of a call's own. It names no function of the program. -/
namespace Go.Proofs.YtcebndkiagbddaaGreatDoor
open Go.RowKit
open Go.ChangeMaps (setBlock)
set_option linter.unusedVariables false
set_option linter.unusedSimpArgs false

abbrev NetMap := List ((UInt32 × Int) × List UInt8)
def nmV (k : UInt32 × Int) : Value := .agg #[.int .u32 (k.1.toNat : Int), .int .i64 k.2]
/-- The map of some nets' owners. -/
def mpEnt (i : Nat) : NetMap → List MapEntry
  | [] => []
  | e :: es => { key := nmV e.1, val := .string ⟨⟨e.2⟩⟩, born := i } :: mpEnt (i + 1) es
def mpObj (es : NetMap) : Obj := .map (mpEnt 0 es).toArray es.length
theorem mpEnt_len : ∀ (es : NetMap) (i : Nat), (mpEnt i es).length = es.length
  | [], _ => rfl
  | e :: es, i => by simp [mpEnt, mpEnt_len es]
theorem mpEnt_get : ∀ (es : NetMap) (i j : Nat), (mpEnt i es)[j]? = es[j]?.map fun e => { key := nmV e.1, val := .string ⟨⟨e.2⟩⟩, born := i + j }
  | [], _, _ => rfl
  | e :: es, i, 0 => rfl
  | e :: es, i, j + 1 => by
    simp only [mpEnt, List.getElem?_cons_succ]
    rw [mpEnt_get es (i + 1) j, show i + 1 + j = i + (j + 1) from by omega]
/-- What is to be known of the types of such a map. -/
structure MapT (P : Program) (T K V : TypeId) : Prop where
  u : P.underlying T = some (.map K V)
  fl : flatK P 20 K = some [.i .u32, .i .i64]
  ag : aggOf P K = some true
  wide : (match P.underlying K with | some (.array _ _) | some (.struct _) => true | _ => false) = true
  ck : ∀ (e : Bool) (k : UInt32 × Int) (w : World), (Instr.checkKey e 10000 K (nmV k)).run P w = .ok () w
  zv : ∀ w : World, (zeroValue V).run P w = .ok (.string ⟨⟨[]⟩⟩) w
section
variable {P : Program} {T K V : TypeId} {w : World}
end
section
variable {E : Env} {kp : List Nat} {φ : Ghost} {Pub : Nat → Nat → Prop} {h : List (Nat × OB)} {w : World}
theorem heap_setBlk_other (w : World) (b : Nat) (o : Obj) (k : Nat) (hk : k ≠ b) : (setBlock w b o).heap[k]? = w.heap[k]? := by
  show (w.heap.setIfInBounds b o)[k]? = _
  simp [Ne.symm hk]
theorem heap_setBlk_same {w : World} {b : Nat} {o : Obj} (hb : b < w.heap.size) : (setBlock w b o).heap[b]? = some o := by
  show (w.heap.setIfInBounds b o)[b]? = _
  simp [hb]
theorem size_setBlk (w : World) (b : Nat) (o : Obj) : (setBlock w b o).heap.size = w.heap.size := by
  show (w.heap.setIfInBounds b o).size = _
  simp
theorem cell_setBlk_other (w : World) (b : Nat) (o : Obj) (k i : Nat) (hk : k ≠ b) : (setBlock w b o).cell? ⟨k, i, none⟩ = w.cell? ⟨k, i, none⟩ := by
  simp only [World.cell?, heap_setBlk_other w b o k hk]
theorem adv_setBlk {b : Nat} {o : Obj} (hp : ∀ i, ¬ Pub b i) : Adv w Pub (setBlock w b o) Pub := fun k i hk =>
  ⟨hk, cell_setBlk_other w b o k i (fun e => hp i (e ▸ hk))⟩
/-- A block of the call's own, which is no row of cells, is changed. -/
theorem Inv.setBlk (I : Inv E kp φ Pub h w) {r b c : Nat} {o' : Obj} {ob : OB} (ha : (look OB.dead h r).alive = true) (hr : φ r = some (b, c)) (hp : ∀ i, ¬ Pub b i) (hob : Hp (setBlock w b o') Pub φ r ob) :
    Inv E kp φ Pub ((r, ob) :: h) (setBlock w b o') := by
  have H := adv_setBlk (w := w) (o := o') hp
  have hm := I.mine r b c ha hr
  refine I.next rfl rfl rfl (by rw [size_setBlk]; exact Nat.le_refl _) (fun k hk hA => heap_setBlk_other w b o' k (fun e => by
      subst e
      rcases hm with hm | hm
      · omega
      · exact hA hm)) H (fun _ _ hp => .inl hp) (fun k i hk => by rw [size_setBlk]; exact I.publ k i hk) (fun q hq => ?_) (fun q k c' hq hk => ?_) (fun q q' k c1 c2 hq hq' hk hk' => ?_) (fun _ _ => rfl)
  · rw [look_cons] at hq ⊢
    split
    · next e => subst e; exact hob
    · next e =>
      rw [if_neg e] at hq
      refine Hp_keep H (fun k c' hk => ⟨heap_setBlk_other w b o' k (fun e2 => ?_), fun i hi => hi⟩) rfl (fun _ _ => rfl) (I.own q)
      subst e2
      exact e (I.inj r q _ _ _ ha hq hr hk)
  · rw [look_cons] at hq
    by_cases e : r = q
    · subst e; exact I.mine r k c' ha hk
    · rw [if_neg e] at hq; exact I.mine q k c' hq hk
  · have hx : ∀ z, (look OB.dead ((r, ob) :: h) z).alive = true → (look OB.dead h z).alive = true := fun z hz => by
      rw [look_cons] at hz
      by_cases e : r = z
      · subst e; exact ha
      · rw [if_neg e] at hz; exact hz
    exact I.inj q q' k c1 c2 (hx q hq) (hx q' hq') hk hk'
end
section
variable {P : Program} {E : Env} {kp : List Nat} {n : Nat} {ops : Array Oper} {st : AS} {d : Nat} {ty : TypeId} {ps : String} {af : Array Edge} {T K V : TypeId}
abbrev mapB (es : NetMap) : OB := .obj (fun o => o = mpObj es)
abbrev nmA (k : UInt32 × Int) : AV := .agg [.p (.v (.int .u32 (k.1.toNat : Int))), .p (.v (.int .i64 k.2))]
theorem nmA_R {w : World} {Pub : Nat → Nat → Prop} {φ : Ghost} {k : UInt32 × Int} {u : Value} (h : RA w Pub φ (nmA k) u) : u = nmV k := by
  unfold RA at h
  obtain ⟨vs, e, h⟩ := h
  unfold RAs at h
  obtain ⟨u0, us, rfl, h0, h⟩ := h
  unfold RAs at h
  obtain ⟨u1, us, rfl, h1, h⟩ := h
  unfold RAs at h
  subst h
  unfold RA RP at h0 h1
  subst h0 h1
  exact e
theorem nmA_V {w : World} {Pub : Nat → Nat → Prop} {φ : Ghost} (k : UInt32 × Int) : RA w Pub φ (nmA k) (nmV k) := by
  unfold RA
  refine ⟨_, rfl, ?_⟩
  unfold RAs
  refine ⟨_, _, rfl, by unfold RA RP; rfl, ?_⟩
  unfold RAs
  refine ⟨_, _, rfl, by unfold RA RP; rfl, ?_⟩
  unfold RAs; rfl
theorem map_at {w : World} {Pub : Nat → Nat → Prop} {φ : Ghost} {r : Nat} {es : NetMap} {u : Value} (I : Inv E kp φ Pub st.heap w) (hl : st.ob r = mapB es) (hu : RA w Pub φ (.mref r) u) :
    ∃ b, φ r = some (b, 1) ∧ u = .map (some b) ∧ w.heap[b]? = some (mpObj es) ∧ ∀ i, ¬ Pub b i := by
  unfold RA at hu
  obtain ⟨b, h1, h2⟩ := hu
  have k := I.own r
  rw [show look OB.dead st.heap r = mapB es from hl] at k
  obtain ⟨b', o, k1, k2, k3, k4⟩ := k
  rw [h1] at k1; cases k1
  exact ⟨b, h1, h2, by rw [k2, k3], k4⟩
theorem S_lenMap (hu : P.underlying T = some (.map K V)) {m : Operand} {r : Nat} {es : NetMap} (hm : Gv (st.ev m) (.mref r)) (hl : st.ob r = mapB es) (hd : Nat.blt d n = true) :
    Step P E kp n ops ⟨some d, .call { callee := .builtin .len, args := #[m], argTypes := #[T] }, ty, ps, af, none⟩ st (st.put d (.p (.v (.int .i64 (es.length : Int))))) :=
  S_pure _ rfl rfl hd fun a w φ Pub I hR => by
    obtain ⟨b, e1, e2, e3, e4⟩ := map_at I hl (hm _ _ _ _ (hR m))
    refine ⟨.int .i64 (es.length : Int), ?_, by unfold RA RP; rfl⟩
    unfold mpObj at e3
    have e6 : (mpEnt 0 es).length = es.length := mpEnt_len es 0
    simp [execOp, resolve, invoke, builtin, Builtin.len_, run_underlying hu, e2, getObj, Sem.run, e3, Result.andThen, goInt, Sem.run_bind, e6]
theorem it_at {w : World} {Pub : Nat → Nat → Prop} {φ : Ghost} {r q since last : Nat} {seen : Array Nat} {es : NetMap} {u : Value} (I : Inv E kp φ Pub st.heap w) (hl : st.ob r = .it q since seen last) (hq : st.ob q = mapB es) (hu : RA w Pub φ (.own r 0) u) :
    ∃ b bm, φ r = some (b, 1) ∧ u = .pointer (some ⟨b, 0, none⟩) ∧ w.heap[b]? = some (.mapIter (some bm) since seen last) ∧ φ q = some (bm, 1) ∧ w.heap[bm]? = some (mpObj es) ∧ ∀ i, ¬ Pub b i := by
  unfold RA at hu
  obtain ⟨b, c, h1, h2⟩ := hu
  have k := I.own r
  rw [show look OB.dead st.heap r = .it q since seen last from hl] at k
  obtain ⟨b', bm, k1, k0, k2, k4⟩ := k
  rw [h1] at k1; cases k1
  have kq := I.own q
  rw [show look OB.dead st.heap q = mapB es from hq] at kq
  obtain ⟨bm', o, j1, j2, j3, j4⟩ := kq
  rw [k0] at j1; cases j1
  exact ⟨b, bm, h1, h2, k2, k0, by rw [j2, j3], k4⟩
/-- The next entry, whichever it is; or none is left. -/
theorem AO.next {Q : Exit → Act → World → Prop} {x : Operand} {r q : Nat} {s : List Nat} {es : NetMap} {rest : List Oper} (hx : Gv (st.ev x) (.own r 0)) (hl : st.ob r = .it q es.length s.reverse.toArray es.length) (hq : st.ob q = mapB es) (hd : Nat.blt d n = true)
    (h1 : ∀ i, i < es.length → i ∉ s → AO P E kp n ops Q rest ⟨(d, .tup [.p (.v (.bool true)), .any, .any]) :: st.slots, (r, .it q es.length (i :: s).reverse.toArray es.length) :: st.heap⟩)
    (h2 : (∀ i, i < es.length → i ∈ s) → AO P E kp n ops Q rest (st.put d (.tup [.p (.v (.bool false))]))) :
    AO P E kp n ops Q (⟨some d, .next x false, ty, ps, af, none⟩ :: rest) st := by
  rintro a w ⟨φ, Pub, I, h0, hn, hsl⟩
  obtain ⟨b, bm, e1, e2, e3, e4, e5, e6⟩ := it_at I hl hq (hx _ _ _ _ (ev_R (h := st.heap) hsl x))
  have hmem : ∀ y ∈ (mpEnt 0 es).toArray.toList, ∃ i, i < es.length ∧ y.born = i := fun y hy => by
    obtain ⟨i, hi⟩ := List.getElem?_of_mem hy
    have hi' : (mpEnt 0 es)[i]? = some y := hi
    rw [mpEnt_get] at hi'
    cases hz : es[i]? with
    | none => rw [hz] at hi'; cases hi'
    | some z => rw [hz] at hi'; cases hi'; exact ⟨i, (List.getElem?_eq_some_iff.1 hz).1, by simp⟩
  have hold : ∀ y ∈ (mpEnt 0 es).toArray.toList, y.born < es.length := fun y hy => by obtain ⟨i, h, e⟩ := hmem y hy; omega
  have hnx := run_next_at (P := P) w ty b bm es.length es.length s.reverse.toArray (mpEnt 0 es).toArray es.length e3 e5 hold (Nat.le_refl _)
  refine wpList_plain rfl fun K hK => ?_
  rcases hnx with ⟨g1, g2⟩ | ⟨e, g1, w1, g2, g3⟩
  · have hr : (execOp a.eval ⟨some d, .next x false, ty, ps, af, none⟩).run P w = .ok (.value (.tuple #[.bool false])) w := by simp [execOp, e2, g2]
    unfold Oper.wp; rw [hr]
    refine hK _ _ (h2 (fun i hi => ?_) _ _ (Sat.put I h0 hn hsl hd ?_))
    · cases hz : es[i]? with
      | none => rw [List.getElem?_eq_getElem hi] at hz; cases hz
      | some z =>
        have hge : (mpEnt 0 es)[i]? = some { key := nmV z.1, val := .string ⟨⟨z.2⟩⟩, born := i } := by rw [mpEnt_get, hz]; simp
        have hm := List.mem_of_getElem? hge
        have hno : ∀ y ∈ (mpEnt 0 es).toArray, s.reverse.toArray.contains y.born = true := by
          intro y hy
          have h3 := Array.size_eq_zero_iff.1 g1
          unfold leftOf at h3
          rw [Array.filter_eq_empty_iff] at h3
          have := h3 y hy
          simpa using this
        have := hno _ (by simpa using hm)
        simpa using this
    · unfold RA
      refine ⟨_, rfl, ?_⟩
      unfold RAs
      refine ⟨_, _, rfl, by unfold RA RP; rfl, ?_⟩
      unfold RAs; rfl
  · have hr : (execOp a.eval ⟨some d, .next x false, ty, ps, af, none⟩).run P w = .ok (.value (.tuple #[.bool true, e.key, e.val])) (setBlock w1 b (.mapIter (some bm) es.length (s.reverse.toArray.push e.born) es.length)) := by simp [execOp, e2, g3]
    unfold Oper.wp; rw [hr]
    have hme : e ∈ (mpEnt 0 es).toArray.toList ∧ s.reverse.toArray.contains e.born = false := by
      unfold leftOf at g1
      simpa using g1
    obtain ⟨i, hi, hb⟩ := hmem e hme.1
    have hns : i ∉ s := by have := hme.2; rw [hb] at this; simpa using this
    have I1 : Inv E kp φ Pub st.heap w1 := by rcases g2 with rfl | rfl; exact I; exact I.drew
    have H1 : Adv w Pub w1 Pub := by rcases g2 with rfl | rfl; exact Adv.refl _ _; exact adv_drew
    have hb1 : w1.heap[b]? = some (.mapIter (some bm) es.length s.reverse.toArray es.length) := by rcases g2 with rfl | rfl <;> exact e3
    have hlt : b < w1.heap.size := (Array.getElem?_eq_some_iff.1 hb1).1
    have hpush : s.reverse.toArray.push e.born = (i :: s).reverse.toArray := by rw [hb]; simp
    rw [hpush]
    have I2 := I1.setBlk (o' := .mapIter (some bm) es.length (i :: s).reverse.toArray es.length) (ob := .it q es.length (i :: s).reverse.toArray es.length) (by rw [show look OB.dead st.heap r = _ from hl]; rfl) e1 e6 ⟨b, bm, e1, e4, heap_setBlk_same hlt, e6⟩
    refine hK _ _ (h1 i hi hns _ _ (Sat.put I2 h0 hn (fun z => RA_mono (H1.trans (adv_setBlk e6)) _ _ (fun _ _ => rfl) (hsl z)) hd ?_))
    unfold RA
    refine ⟨_, rfl, ?_⟩
    unfold RAs
    refine ⟨_, _, rfl, by unfold RA RP; rfl, ?_⟩
    unfold RAs
    refine ⟨_, _, rfl, by unfold RA; trivial, ?_⟩
    unfold RAs
    refine ⟨_, _, rfl, by unfold RA; trivial, ?_⟩
    unfold RAs; rfl
end
end Go.Proofs.YtcebndkiagbddaaGreatDoor

/- Rows of the call's own whose cells may lead to other blocks of the call's own; those are told by their places in a list of names. It names no function of the program. -/
namespace Go.Proofs.YtcebndkiagbddaaGreatDoor
open Go.RowKit
set_option linter.unusedVariables false
set_option linter.unusedSimpArgs false

section
variable {P : Program} {E : Env} {kp : List Nat} {n : Nat} {ops : Array Oper} {st st' : AS} {d : Nat} {ty : TypeId} {ps : String} {af : Array Edge}
theorem loc_get {φ : Ghost} {ns : List Nat} {j q : Nat} (h : ns[j]? = some q) : loc φ ns j = φ q := by unfold loc; rw [h]
section
variable {φ : Ghost} {Pub : Nat → Nat → Prop} {h : List (Nat × OB)} {w : World}
theorem own_cell_ra (I : Inv E kp φ Pub h w) {r b c sz : Nat} {cells : List AV} {t : TypeId} {ns : List Nat} (hl : look OB.dead h r = .ra cells t sz ns) (hr : φ r = some (b, c)) :
    ∃ vs : List Value, RAs w Pub (loc φ ns) cells vs ∧ (∀ u ∈ vs, u.oneCell' = true) ∧ ∀ j u, vs[j]? = some u → w.cell? ⟨b, j, none⟩ = some u := by
  have k := I.own r
  rw [hl] at k
  rcases k with ⟨k0, _⟩ | ⟨b', c', cur, fr, k1, ⟨k2, k2'⟩, k3, k4, k5, k6, k7, k8⟩
  · rw [hr] at k0; cases k0
  rw [hr] at k1; cases k1
  refine ⟨_, k6, k7, fun j u hj => ?_⟩
  rw [cell_of_row w b j cur t fr k2]
  rw [List.getElem?_take] at hj
  split at hj
  · simpa using hj
  · cases hj
end
section
variable {T : TypeId} {x : Operand} (hd : Nat.blt d n = true)
include hd
theorem S_loadRa {r off sz : Nat} {cells : List AV} {t : TypeId} {ns : List Nat} {v y : AV} (hx : Gv (st.ev x) (.own r off)) (hT : aggOf P T = some false) (hl : st.ob r = .ra cells t sz ns) (hv : cells[off]? = some v)
    (hy : ∀ (w : World) (Pub : Nat → Nat → Prop) (φ : Ghost) (u : Value), RA w Pub (loc φ ns) v u → RA w Pub φ y u) : Step P E kp n ops ⟨some d, .load T x, ty, ps, af, none⟩ st (st.put d y) :=
  S_pure _ rfl rfl hd fun a w φ Pub I hR => by
    have h := hx _ _ _ _ (hR x)
    unfold RA at h
    obtain ⟨b, c, e0, e⟩ := h
    obtain ⟨vs, c1, c2, c3⟩ := own_cell_ra I hl e0
    obtain ⟨u, hu, hRv⟩ := RAs_get c1 hv
    refine ⟨u, ?_, hy _ _ _ _ hRv⟩
    simp only [execOp, e]
    rw [Sem.run_bind, run_load1 hT (c3 off u hu)]; rfl
theorem S_loadRaN {r off s sz : Nat} {cells : List AV} {t : TypeId} {ns : List Nat} {l l' : List AV} (hx : Gv (st.ev x) (.own r off)) (hT : aggOf P T = some true) (hs : szOf P T = some s) (hl : st.ob r = .ra cells t sz ns)
    (hv : (cells.drop off).take s = l) (hlen : l.length = s) (hy : ∀ (w : World) (Pub : Nat → Nat → Prop) (φ : Ghost) (us : List Value), RAs w Pub (loc φ ns) l us → RAs w Pub φ l' us) :
    Step P E kp n ops ⟨some d, .load T x, ty, ps, af, none⟩ st (st.put d (.agg l')) :=
  S_pure _ rfl rfl hd fun a w φ Pub I hR => by
    have h := hx _ _ _ _ (hR x)
    unfold RA at h
    obtain ⟨b, c, e0, e⟩ := h
    obtain ⟨vs, c1, c2, c3⟩ := own_cell_ra I hl e0
    have c4 := RAs_take s (RAs_drop off c1)
    rw [hv] at c4
    refine ⟨_, ?_, by unfold RA; exact ⟨_, rfl, hy _ _ _ _ c4⟩⟩
    simp only [execOp, e]
    rw [Sem.run_bind, run_loadN hT hs (by rw [RAs_length c4]; exact hlen) (fun j v hj => by
      rw [List.getElem?_take] at hj
      split at hj
      · rw [List.getElem?_drop] at hj; exact c3 _ _ hj
      · cases hj)]; rfl
end
/-- Some values into the cells of such a row. -/
theorem Inv.storeRa {φ : Ghost} {Pub : Nat → Nat → Prop} {h : List (Nat × OB)} {w : World} (I : Inv E kp φ Pub h w) {r b c o sz : Nat} {t : TypeId} {cells cells' : List AV} {ns ns' : List Nat} {us : List Value} (hl : look OB.dead h r = .ra cells t sz ns) (hr : φ r = some (b, c))
    (hlen : cells'.length = cells.length) (h1 : ∀ u ∈ us, u.oneCell' = true) (hin : o + us.length ≤ cells.length) (hcell : ∀ vs, RAs w Pub (loc φ ns) cells vs → RAs w Pub (loc φ ns') cells' (putL vs o us)) :
    Inv E kp φ Pub ((r, .ra cells' t sz ns') :: h) (w.setCells b o us) ∧ Adv w Pub (w.setCells b o us) Pub := by
  have k := I.own r
  rw [hl] at k
  rcases k with ⟨k0, _⟩ | ⟨b', c', cur, fr, k1, ⟨k2, k2'⟩, k3, k4, k5, k6, k7, k8⟩
  · rw [hr] at k0; cases k0
  rw [hr] at k1; cases k1
  have hnp : ∀ i, i < us.length → ¬ Pub b (o + i) := fun i _ => k8 _
  have H : Adv w Pub (w.setCells b o us) Pub := adv_setCells hnp
  obtain ⟨cur', c1, c2, c3⟩ := heap_setCells_same b us o w cur t _ k2
  rw [putL_foldl] at c3
  refine ⟨I.store (by rw [hl]; rfl) hr hnp rfl (.inr ⟨b, c, cur', fr, hr, ⟨c1, by rw [c2]; exact k2'⟩, k3, by rw [c2]; exact k4, by rw [hlen, c2]; exact k5, ?_, ?_, k8⟩), H⟩
  · rw [c3, hlen, putL_take _ _ _ _ (by omega)]; exact RAs_mono H _ _ (fun _ _ => rfl) (hcell _ k6)
  · intro u hu
    rw [c3, hlen, putL_take _ _ _ _ (by omega)] at hu
    rcases putL_mem us o _ hu with hu | hu
    · exact k7 u hu
    · exact h1 u hu
theorem S_storeRa {T : TypeId} {x y : Operand} {r off s sz : Nat} {cells cells' : List AV} {ns ns' : List Nat} {t : TypeId} {v : AV} (hx : Gv (st.ev x) (.own r off)) (hy : Gv (st.ev y) v) (hs : szOf P T = some s) (hl : st.ob r = .ra cells t sz ns)
    (h1 : allOne v.cs = true) (hlen : v.cs.length = s) (hlen' : cells'.length = cells.length) (hin : off + s ≤ cells.length)
    (hcell : ∀ (w : World) (Pub : Nat → Nat → Prop) (φ : Ghost) (vs us : List Value), RAs w Pub (loc φ ns) cells vs → RAs w Pub φ v.cs us → RAs w Pub (loc φ ns') cells' (putL vs off us)) :
    Step P E kp n ops ⟨none, .store T x y, ty, ps, af, none⟩ st (st.set r (.ra cells' t sz ns')) := by
  refine Step.skip rfl fun a w ⟨φ, Pub, I, h0, hn, hsl⟩ => ?_
  have h := hx _ _ _ _ (ev_R (h := st.heap) hsl x)
  unfold RA at h
  obtain ⟨b, c, e0, e⟩ := h
  obtain ⟨c1, c2⟩ := cs_R h1 (hy _ _ _ _ (ev_R (h := st.heap) hsl y))
  have hul := RAs_length c1
  have k := I.own r
  have hl' : look OB.dead st.heap r = .ra cells t sz ns := hl
  rw [hl'] at k
  rcases k with ⟨k0, _⟩ | ⟨b', c', cur, fr, k1, ⟨k2, k2'⟩, k3, k4, k5, k6, k7, k8⟩
  · rw [e0] at k0; cases k0
  rw [e0] at k1; cases k1
  obtain ⟨I', H⟩ := I.storeRa (ns' := ns') (cells' := cells') hl' e0 hlen' c2 (by rw [hul, hlen]; exact hin) (fun vs hv => hcell _ _ _ _ _ hv c1)
  refine ⟨w.setCells b off (a.eval y).cells.toList, ?_, φ, Pub, I', h0, hn, fun q => RA_mono H _ _ (fun _ _ => rfl) (hsl q)⟩
  simp only [execOp, e]
  rw [Sem.run_bind, run_storeN hs k2 k2' (by rw [hul]; exact hlen) (by omega) c2]; rfl
/-- A new block that is such a row. -/
theorem ra_made {φ : Ghost} {Pub : Nat → Nat → Prop} {w : World} {a : Act} (I : Inv E kp φ Pub st.heap w) (h0 : a.defers = []) (hn : a.tmps.size = n) (hsl : ∀ s, RA w Pub φ (look .any st.slots s) (a.tmps.getD s undef)) {r sz m c : Nat} {cur : Array Value} {e : TypeId} {cells : List AV} {ns : List Nat}
    (hf : st.free kp r = true) (hns : ns.contains r = false) (hd : Nat.blt d n = true) (hsz : cur.size = c * sz) (hle : cells.length ≤ cur.size) (hR : RAs w Pub (loc φ ns) cells (cur.toList.take cells.length)) (h1 : ∀ u ∈ cur.toList.take cells.length, u.oneCell' = true) (hc : c ≤ maxLen) (hm : m ≤ c) :
    Sat E kp n ⟨(d, .osl r m) :: st.slots, (r, .ra cells e sz ns) :: st.heap⟩ (a.put (some d) (.slice (some ⟨w.heap.size, 0, none⟩) m c)) (w.alloc (.cells cur e)) := by
  obtain ⟨f1, f2, f3, f4⟩ := free_split hf
  have hl : loc (fun q => if q = r then some (w.heap.size, c) else φ q) ns = loc φ ns := loc_eq fun q hq => if_neg fun e => by subst e; rw [hns] at hq; cases hq
  have I' := I.alloc f1 f2 f4 (.cells cur e) c (ob := .ra cells e sz ns) (.inr ⟨w.heap.size, c, cur, (0, 0), if_pos rfl, ⟨heap_alloc_new w _, .inl rfl⟩, hc, hsz, hle, by rw [hl]; exact RAs_mono (adv_alloc I _) _ _ (fun _ _ => rfl) hR, h1, fun i hp => by have := I.publ _ _ hp; omega⟩)
  exact Sat.put I' h0 hn (fun s => RA_alloc I (look_sHas f3) c (hsl s)) hd (by unfold RA; exact .inl ⟨_, _, if_pos rfl, rfl, hm⟩)
/-- A slice literal of such a row. -/
theorem S_buildRa {T e : TypeId} {parts : List (Nat × Operand)} {sz bytes len : Nat} {z : List Value} {out qs : List AV} {ns : List Nat} (r : Nat) (hpos : 0 < len) (hT : apOf P T = some (e, sz, bytes, z)) (hsz : 0 < sz) (h1 : z.all (·.oneCell') = true) (hlen : Nat.ble (len * sz) 1000000 = true)
    (hf : fillA ((List.range len).map fun i => (i * sz, sz)) (boxV (zerosV z len)) (parts.map fun p => (p.1, st.ev p.2)) = some out) (hone : allOne out = true) (hq : ∀ (w : World) (Pub : Nat → Nat → Prop) (φ : Ghost) (us : List Value), RAs w Pub φ out us → RAs w Pub (loc φ ns) qs us) (hql : qs.length = len * sz) (hol : out.length = qs.length)
    (hfr : st.free kp r = true) (hns : ns.contains r = false) (hd : Nat.blt d n = true) :
    Step P E kp n ops ⟨some d, .buildSlice T len parts.toArray, ty, ps, af, none⟩ st ⟨(d, .osl r len) :: st.slots, (r, .ra qs e sz ns) :: st.heap⟩ := by
  refine Step.val rfl fun a w ⟨φ, Pub, I, h0, hn, hsl⟩ => ?_
  have hlen := Nat.le_of_ble_eq_true hlen
  obtain ⟨i, v, t1, t2, t3, t4, t5, t6, t7⟩ := ap_of hT
  have hzv : (zeroValue e).run P w = .ok v w := by simp [zeroValue, typeInfo, t2, t3]
  have hso : (sizeOf e).run P w = .ok sz w := run_sizeOf (by unfold szOf; rw [t2]; simp [t4]) w
  have hR : ∀ y, RA w Pub φ (st.ev y) (a.eval y) := ev_R hsl
  have hvz : v.cells.size = sz := t6
  obtain ⟨cur', k1, k2⟩ := fill_R (w := w) (Pub := Pub) (φ := φ) (place := fun i => some (i * sz, sz)) (a := a) (fun i os hos => by
      rw [List.getElem?_map] at hos
      cases hr : (List.range len)[i]? with
      | none => rw [hr] at hos; cases hos
      | some j =>
        rw [hr] at hos
        have : j = i := by rw [List.getElem?_eq_some_iff] at hr; obtain ⟨_, h⟩ := hr; simpa using h.symm
        subst this; simpa using hos) (us := parts.map fun p => (p.1, a.eval p.2)) (cur := (Array.range (len * sz)).map (v.cells[· % v.cells.size]!)) hf (by
      have := fresh_zero v.cells (by omega) len
      rw [t6, t7] at this
      rw [t6, this]
      exact RAs_vals _) (by simp) (fun j i x hj => by
      rw [List.getElem?_map] at hj ⊢
      cases hq : parts[j]? with
      | none => rw [hq] at hj; cases hj
      | some p =>
        rw [hq] at hj
        simp only [Option.map_some, Option.some.injEq, Prod.mk.injEq] at hj
        obtain ⟨rfl, rfl⟩ := hj
        exact ⟨a.eval p.2, rfl, hR p.2⟩)
  have hcl := RAs_length k2
  rw [Array.length_toList] at hcl
  have k3 := hq _ _ _ _ k2
  refine ⟨.slice (some ⟨w.heap.size, 0, none⟩) len len, w.alloc (.cells cur' e), ?_, ra_made (st := st) I h0 hn hsl hfr hns hd (by rw [hcl, hol, hql]) (by omega) ?_ ?_ (by unfold maxLen; have : len ≤ len * sz := Nat.le_mul_of_pos_right _ hsz; omega) (Nat.le_refl _)⟩
  · have hz : ¬ (len * sz > 2 ^ 24) := by omega
    have e2 : (parts.toArray.map fun (p : Nat × Operand) => (p.1, a.eval p.2)).toList = parts.map fun p => (p.1, a.eval p.2) := by simp
    simp only [execOp]
    rw [Sem.run_bind]
    unfold Instr.buildSlice
    simp only [Sem.run_bind, run_underlying t1, Result.andThen_ok, hso, if_neg hz]
    have h00 : ¬ len * sz = 0 := by have := Nat.mul_pos hpos hsz; omega
    simp only [if_neg h00, Sem.run_bind, hzv, Result.andThen_ok, Sem.run_pure]
    rw [e2, k1]
    simp [newRow, newObj, Sem.run]
  · rw [List.take_of_length_le (by rw [Array.length_toList]; omega)]; exact k3
  · rw [List.take_of_length_le (by rw [Array.length_toList]; omega)]; exact allOne_R hone k2
/-- An empty row under a free name. -/
theorem wk_nilNew (q : Nat) (t : TypeId) (sz : Nat) (hf : st.free kp q = true) : Wk E kp n st ⟨st.slots, (q, .row [] t sz 0) :: st.heap⟩ := by
  rintro a w ⟨φ, Pub, I, h0, hn, hsl⟩
  obtain ⟨f1, f2, f3, f4⟩ := free_split hf
  exact ⟨_, Pub, I.nilRow f1 f2 f4 t sz 0, h0, hn, fun s => RA_rename (Adv.refl _ _) (look_sHas f3) (hsl s)⟩
/-- Such a row with more behind it, in its block or in a new one. -/
theorem Inv.appendRa {φ : Ghost} {Pub : Nat → Nat → Prop} {h : List (Nat × OB)} {w : World} (I : Inv E kp φ Pub h w) {r r' n sz : Nat} {e : TypeId} {cells news : List AV} {ns ns' : List Nat} {u : Value} (hl : look OB.dead h r = .ra cells e sz ns) (hu : RA w Pub φ (.osl r n) u) (hn : n * sz = cells.length)
    (hf : (look OB.dead h r').alive = false) (hh : hHas r' h = false) (hk : r' ∉ kp) (hns : ns'.contains r' = false) (hcell : ∀ vs, RAs w Pub (loc φ ns) cells vs → RAs w Pub (loc φ ns') cells vs)
    (t ty : TypeId) (i : TypeInfo) (z : Value) (bytes : Nat) (ht : P.underlying t = some (.slice e)) (hi : P.info? e = some i) (hz : i.zero = some z) (hsize : i.size = sz) (hby : i.bytes = bytes) (hzs : z.cells.size = sz) (hsz : 0 < sz)
    (ad : Addr) (m c : Nat) (vs : List Value) (hm : 0 < m) (hv : RAs w Pub (loc φ ns') news vs) (hvl : vs.length = m * sz) (hv1 : ∀ u ∈ vs, u.oneCell' = true) (hvc : ∀ j u, vs[j]? = some u → w.cell? (ad.add j) = some u) (h63 : n + m ≤ maxLen) (hbytes : (n + m) * bytes ≤ 140737488355328) :
    ∃ v' w' g, (Builtin.append_ #[t, t] ty #[u, .slice (some ad) m c]).run P w = .ok v' w' ∧ Inv E kp (fun q => if q = r' then g else φ q) Pub ((r', .ra (cells ++ news) e sz ns') :: (r, .dead) :: h) w' ∧
      RA w' Pub (fun q => if q = r' then g else φ q) (.osl r' (n + m)) v' ∧ Adv w Pub w' Pub := by
  subst hsize
  subst hby
  have ha : (look OB.dead h r).alive = true := by rw [hl]; rfl
  have hne : r ≠ r' := fun e => by subst e; rw [ha] at hf; cases hf
  have hfd : (look OB.dead ((r, OB.dead) :: h) r').alive = false := by rw [look_cons, if_neg hne]; exact hf
  have hhd : hHas r' ((r, OB.dead) :: h) = false := by simp only [hHas, OB.has, hh]; rfl
  have hsmall : n + m ≤ 9223372036854775807 := by simp only [maxLen] at h63; omega
  have hnl : news.length = m * i.size := by have := RAs_length hv; omega
  have hloc : ∀ g, loc (fun q => if q = r' then g else φ q) ns' = loc φ ns' := fun g => loc_eq fun q hq => if_neg fun e => by subst e; rw [hns] at hq; cases hq
  -- a new block
  have grow : ∀ (xs : List Value) (old : Nat), RAs w Pub (loc φ ns') cells xs → (∀ u ∈ xs, u.oneCell' = true) → old < n + m →
      ∃ g, Inv E kp (fun q => if q = r' then g else φ q) Pub ((r', .ra (cells ++ news) e i.size ns') :: (r, .dead) :: h) (w.drew.alloc (.cells (xs.toArray ++ vs.toArray ++ Builtin.zeroCells z.cells (grownCap w (n + m) old e - (n + m))) e)) ∧
      RA (w.drew.alloc (.cells (xs.toArray ++ vs.toArray ++ Builtin.zeroCells z.cells (grownCap w (n + m) old e - (n + m))) e)) Pub (fun q => if q = r' then g else φ q) (.osl r' (n + m)) (.slice (some ⟨w.heap.size, 0, none⟩) (n + m) (grownCap w (n + m) old e)) ∧
      Adv w Pub (w.drew.alloc (.cells (xs.toArray ++ vs.toArray ++ Builtin.zeroCells z.cells (grownCap w (n + m) old e - (n + m))) e)) Pub := by
    intro xs old hx h1 ho
    have hge := grownCap_ge w (n + m) old e
    have hcm : grownCap w (n + m) old e ≤ maxLen := grownCap_le_maxLen w (n + m) old e h63
    have hxl := RAs_length hx
    have ID := (I.drop r).drew
    have hcs : (xs.toArray ++ vs.toArray ++ Builtin.zeroCells z.cells (grownCap w (n + m) old e - (n + m))).size = grownCap w (n + m) old e * i.size := by
      simp only [Array.size_append, List.size_toArray, size_zeroCells, hzs, hxl, ← hn, hvl, ← Nat.add_mul]
      congr 1; omega
    have htk : (xs.toArray ++ vs.toArray ++ Builtin.zeroCells z.cells (grownCap w (n + m) old e - (n + m))).toList.take (cells ++ news).length = xs ++ vs := by
      simp only [Array.toList_append]
      rw [show (cells ++ news).length = (xs ++ vs).length from by simp only [List.length_append]; omega]
      exact List.take_left
    have H := (adv_drew (w := w) (Pub := Pub)).trans (adv_alloc ID (.cells (xs.toArray ++ vs.toArray ++ Builtin.zeroCells z.cells (grownCap w (n + m) old e - (n + m))) e))
    refine ⟨some (w.heap.size, grownCap w (n + m) old e), ID.alloc hfd hhd hk _ (grownCap w (n + m) old e) (.inr ⟨w.heap.size, _, _, (0, 0), if_pos rfl, ⟨heap_alloc_new w.drew _, .inl rfl⟩, hcm, hcs, ?_, ?_, ?_, fun j hj => ?_⟩), ?_, H⟩
    · rw [hcs, List.length_append, ← hn, hnl, ← Nat.add_mul]; exact Nat.mul_le_mul_right _ hge
    · rw [htk]
      have := hloc (some (w.drew.heap.size, grownCap w (n + m) old e))
      rw [this]
      exact RAs_mono H _ _ (fun _ _ => rfl) (RAs_append hx hv)
    · rw [htk]; intro y hy
      rcases List.mem_append.1 hy with hy | hy
      · exact h1 y hy
      · exact hv1 y hy
    · have := I.publ _ _ hj; exact absurd this (Nat.lt_irrefl _)
    · unfold RA; exact .inl ⟨w.heap.size, _, if_pos rfl, rfl, hge⟩
  have k := I.own r
  rw [hl] at k
  unfold RA at hu
  rcases k with ⟨k0, rfl⟩ | ⟨b, cc, cur, fr, k1, ⟨k2, k2'⟩, k3, k4, k5, k6, k7, k8⟩
  · -- nil
    have hn0 : n = 0 := by
      rcases Nat.eq_zero_or_pos n with h0 | h0
      · exact h0
      · have := Nat.mul_pos h0 hsz; simp at hn; omega
    subst hn0
    have hu' : u = .slice none 0 0 := by
      rcases hu with ⟨b, c, e1, _⟩ | ⟨_, _, e⟩
      · rw [k0] at e1; cases e1
      · exact e
    subst hu'
    obtain ⟨g, G1, G2, G3⟩ := grow [] 0 (by unfold RAs; rfl) (by simp) (by omega)
    have hr := run_append_nil (P := P) w t ty e i z ht hi hz ad m c vs hvl hvc hm (by omega) (by have hb := hbytes; simp only [Nat.zero_add] at hb; omega)
    simp only [Nat.zero_add, List.nil_append, Array.empty_append] at G1 G2 G3 ⊢
    exact ⟨_, _, g, hr, G1, G2, G3⟩
  · have hu' : u = .slice (some ⟨b, 0, none⟩) n cc ∧ n ≤ cc := by
      rcases hu with ⟨b', c', e1, e2, e3⟩ | ⟨e1, _, _⟩
      · rw [k1] at e1; cases e1; exact ⟨e2, e3⟩
      · rw [k1] at e1; cases e1
    obtain ⟨rfl, hnc⟩ := hu'
    have k6' := hcell _ k6
    have hxl : (cur.toList.take cells.length).length = n * i.size := by rw [List.length_take, Nat.min_eq_left (by rw [Array.length_toList]; exact k5), hn]
    by_cases hroom : n + m ≤ cc
    · -- in its block
      have hfit : n * i.size + vs.length ≤ cur.size := by rw [hvl, k4, ← Nat.add_mul]; exact Nat.mul_le_mul_right _ hroom
      have hst := run_storeCells_cells (P := P) b (n * i.size) vs 0 w (fun j hj => by
          rw [cell_of_row w b _ cur e fr k2, Array.getElem?_eq_getElem (by omega)]; rfl) (fun j hj => by
          unfold World.frozen?; simp only [k2]
          rcases k2' with h0 | h0
          · subst h0; simp
          · have := h0.1; simp; omega) hv1
      have hfc := run_firstCells_some (P := P) w i.size m ad m c vs hvl hvc
      have hr : (Builtin.append_ #[t, t] ty #[.slice (some ⟨b, 0, none⟩) n cc, .slice (some ad) m c]).run P w = .ok (.slice (some ⟨b, 0, none⟩) (n + m) cc) (w.setCells b (n * i.size) vs) := by
        simp only [Nat.add_zero] at hst
        simp [Builtin.append_, run_underlying ht, sizeOf, typeInfo, hi, Builtin.lenOf, hroom, hfc, Addr.add_mid, hst]
      obtain ⟨s1, s2, s3⟩ := streams_setCells b vs (n * i.size) w
      obtain ⟨cur', c1, c2, c3⟩ := heap_setCells_same b vs (n * i.size) w cur e fr k2
      rw [putL_foldl] at c3
      have htk : cur'.toList.take (cells ++ news).length = cur.toList.take cells.length ++ vs := by
        rw [c3, hn]
        have hle : cells.length + vs.length ≤ cur.toList.length := by have := Array.length_toList (xs := cur); omega
        rw [show (cells ++ news).length = cells.length + vs.length from by rw [List.length_append]; omega]
        exact putL_app vs cells.length cur.toList hle
      have H : Adv w Pub (w.setCells b (n * i.size) vs) Pub := adv_setCells fun j _ => k8 _
      have hm' := I.mine r b cc ha k1
      have hother : ∀ k, k ≠ b → (w.setCells b (n * i.size) vs).heap[k]? = w.heap[k]? := fun k hk => heap_setCells_other b vs _ w k hk
      have hal : ∀ q, (look OB.dead ((r', OB.ra (cells ++ news) e i.size ns') :: (r, .dead) :: h) q).alive = true → q = r' ∨ (q ≠ r' ∧ q ≠ r ∧ (look OB.dead h q).alive = true) := fun q hq => by
        rw [look_cons] at hq
        by_cases e : r' = q
        · exact .inl e.symm
        · rw [if_neg e, look_cons] at hq
          by_cases e2 : r = q
          · rw [if_pos e2] at hq; cases hq
          · rw [if_neg e2] at hq; exact .inr ⟨Ne.symm e, Ne.symm e2, hq⟩
      refine ⟨_, _, some (b, cc), hr, ?_, by unfold RA; exact .inl ⟨b, cc, if_pos rfl, rfl, hroom⟩, H⟩
      refine I.next s1 s2 s3 (by rw [size_setCells]; exact Nat.le_refl _) (fun k hk hA => hother k (fun e => by
          subst e
          rcases hm' with hm' | hm'
          · omega
          · exact hA hm')) H (fun _ _ hp => .inl hp) (fun k i hp => by rw [size_setCells]; exact I.publ k i hp) (fun q hq => ?_) (fun q k c' hq hk => ?_) (fun q q' k c1 c2 hq hq' hk hk' => ?_) (fun q hq => ?_)
      · rcases hal q hq with e | ⟨e1, e2, e3⟩
        · subst e
          rw [look_cons, if_pos rfl]
          refine .inr ⟨b, cc, cur', fr, if_pos rfl, ⟨c1, by rw [c2]; exact k2'⟩, k3, by rw [c2]; exact k4, by rw [c2, List.length_append]; omega, ?_, ?_, k8⟩
          · rw [htk, hloc]; exact RAs_mono H _ _ (fun _ _ => rfl) (RAs_append k6' hv)
          · rw [htk]; intro y hy
            rcases List.mem_append.1 hy with hy | hy
            · exact k7 y hy
            · exact hv1 y hy
        · rw [look_cons, if_neg (Ne.symm e1), look_cons, if_neg (Ne.symm e2)]
          refine Hp_keep H (fun k c' hk => ⟨hother k (fun e => ?_), fun i hi => hi⟩) (if_neg e1) (fun x hx => ?_) (I.own q)
          · subst e; exact e2 (I.inj q r _ _ _ e3 ha hk k1)
          · have : x ≠ r' := fun e => by subst e; rw [look_hHas hh] at hx; cases hx
            exact if_neg this
      · rcases hal q hq with e | ⟨e1, e2, e3⟩
        · rw [if_pos e] at hk; cases hk; exact hm'
        · rw [if_neg e1] at hk; exact I.mine q k c' e3 hk
      · rcases hal q hq with e | ⟨e1, e2, e3⟩ <;> rcases hal q' hq' with e' | ⟨e1', e2', e3'⟩
        · rw [e, e']
        · rw [if_pos e] at hk; rw [if_neg e1'] at hk'; cases hk
          exact absurd (I.inj q' r _ _ _ e3' ha hk' k1) e2'
        · rw [if_pos e'] at hk'; rw [if_neg e1] at hk; cases hk'
          exact absurd (I.inj q r _ _ _ e3 ha hk k1) e2
        · rw [if_neg e1] at hk; rw [if_neg e1'] at hk'; exact I.inj q q' k c1 c2 e3 e3' hk hk'
      · exact if_neg (fun e => by subst e; exact hk hq)
    · -- in another one
      have holds : ∀ j u, (cur.toList.take cells.length)[j]? = some u → w.cell? ((⟨b, 0, none⟩ : Addr).add j) = some u := fun j u hj => by
        rw [Addr.add_mid, Nat.zero_add, cell_of_row w b j cur e fr k2]
        rw [List.getElem?_take] at hj
        split at hj
        · simpa using hj
        · cases hj
      have hr := run_append_grow (P := P) w t ty e i z ht hi hz ⟨b, 0, none⟩ n cc _ hxl holds ad m c vs hvl hvc (by omega) (by omega) (growslice_fits (by omega) hbytes)
      obtain ⟨g, G1, G2, G3⟩ := grow _ cc k6' k7 (by omega)
      exact ⟨_, _, g, hr, G1, G2, G3⟩
/-- An element of a row with own kids, behind another such row. -/
theorem S_appendRa {T e e2 : TypeId} {x y : Operand} {sz bytes r r2 m0 m : Nat} {cells cells2 news : List AV} {ns ns2 ns' : List Nat} {z : List Value} (r' : Nat) (hd : Nat.blt d n = true) (hx : Gv (st.ev x) (.osl r m0)) (hl : st.ob r = .ra cells e sz ns) (hn : m0 * sz = cells.length)
    (hy : Gv (st.ev y) (.osl r2 m)) (hl2 : st.ob r2 = .ra cells2 e2 sz ns2) (hn2 : cells2.length = m * sz) (hm0 : 0 < m) (hT : apOf P T = some (e, sz, bytes, z)) (hsz : 0 < sz) (hb : (m0 + m) * bytes ≤ 140737488355328) (hm : m0 + m ≤ 140737488355328) (hf : st.free kp r' = true) (hns : ns'.contains r' = false)
    (h1 : ∀ (w : World) (Pub : Nat → Nat → Prop) (φ : Ghost) (vs : List Value), RAs w Pub (loc φ ns) cells vs → RAs w Pub (loc φ ns') cells vs)
    (h2 : ∀ (w : World) (Pub : Nat → Nat → Prop) (φ : Ghost) (vs : List Value), RAs w Pub (loc φ ns2) cells2 vs → RAs w Pub (loc φ ns') news vs) :
    Step P E kp n ops ⟨some d, .call { callee := .builtin .append, args := #[x, y], argTypes := #[T, T] }, ty, ps, af, none⟩ st ⟨(d, .osl r' (m0 + m)) :: st.slots, (r', .ra (cells ++ news) e sz ns') :: (r, .dead) :: st.heap⟩ := by
  refine Step.val rfl fun a w ⟨φ, Pub, I, h0, hnn, hsl⟩ => ?_
  obtain ⟨f1, f2, f3, f4⟩ := free_split hf
  obtain ⟨i, v, t1, t2, t3, t4, t5, t6, t7⟩ := ap_of hT
  have hu2 := hy _ _ _ _ (ev_R (h := st.heap) hsl y)
  unfold RA at hu2
  rcases hu2 with ⟨b, c, k1, k2, k3⟩ | ⟨_, k0, _⟩
  · obtain ⟨vs, c1, c2, c3⟩ := own_cell_ra I hl2 k1
    obtain ⟨v', w', g, hr, I', hR, H⟩ := I.appendRa (P := P) (ns' := ns') (news := news) hl (hx _ _ _ _ (ev_R (h := st.heap) hsl x)) hn f1 f2 f4 hns (fun vs hv => h1 _ _ _ _ hv) T ty i v bytes t1 t2 t3 t4 t5 t6 hsz ⟨b, 0, none⟩ m c vs hm0 (h2 _ _ _ _ c1) (by rw [RAs_length c1]; exact hn2) c2 (fun j u hj => by rw [Addr.add_mid, Nat.zero_add]; exact c3 j u hj) (by unfold maxLen; omega) hb
    refine ⟨v', w', ?_, Sat.put I' h0 hnn (fun s => RA_rename H (look_sHas f3) (hsl s)) hd hR⟩
    simp only [execOp, resolve, invoke, builtin, Sem.run_bind, Sem.run_pure, Result.andThen_ok, List.map_toArray, List.map_cons, List.map_nil, k2, hr]
  · omega
end
end Go.Proofs.YtcebndkiagbddaaGreatDoor

