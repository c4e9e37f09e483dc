/- Small general lemmas for the walks of this seat; they name no function of the program. -/
import Derived.WalkKit
import Derived.WalkSpells
import Derived.WalkLawsBesides
import Derived.Deep.QuietTactic
import Derived.BigQuiet
import Derived.Deep.RegionHeld3
import Derived.Lib.Hide
namespace Go.Proofs.Ytnopdnclefopbaa
open Go.RowKit
set_option linter.unusedVariables false
set_option linter.unusedSimpArgs false

/-- A callee that leaves the world alone, met in a region that draws. -/
theorem quiet_same {P : Program} {f : FuncId} {args : Array Value} {w : World} {n : Nat} {v : Value}
    (h : Calls P f args (w.drewN n) fun e w' => e = .returned v ∧ w.drewN n = w') : Calls P f args (w.drewN n) fun e w'' => e = .returned v ∧ ∃ m, w'' = w.drewN m :=
  h.mono fun _ _ ⟨he, hm⟩ => ⟨he, n, hm.symm⟩
theorem bcell {W w1 : World} (hb : Below W.heap.size W w1) : (∀ b o, b < W.heap.size → w1.cell? ⟨b, o, none⟩ = W.cell? ⟨b, o, none⟩) ∧ (∀ b o, b < W.heap.size → w1.frozen? ⟨b, o, none⟩ = W.frozen? ⟨b, o, none⟩) :=
  ⟨fun b o h => hb.cell (p := ⟨b, o, none⟩) h, fun b o h => hb.frozen (p := ⟨b, o, none⟩) h⟩
theorem bcellR {RB : Nat} {W w1 : World} (hb : Below RB W w1) : ∀ b o, b < RB → w1.cell? ⟨b, o, none⟩ = W.cell? ⟨b, o, none⟩ := fun b o h => hb.cell (p := ⟨b, o, none⟩) h
theorem ret_int {k : IntKind} {a b : Int} (h : a = b) : Ending.returned (.int k a) = .returned (.int k b) := by rw [h]
theorem ret_bool {a b : Bool} (h : a = b) : Ending.returned (.bool a) = .returned (.bool b) := by rw [h]
theorem below_drewN {B : Nat} {a w : World} (h : Below B a w) (n : Nat) : Below B a (w.drewN n) := ⟨h.os, h.tape, h.output, h.size, h.block⟩
theorem size_drewN (w : World) (n : Nat) : (w.drewN n).heap.size = w.heap.size := rfl
section
variable {P : Program} {md : Region.Mode} {ops : Array Oper} {Q : Exit → Act → World → Prop} {S : World → Prop}
/-- One operation of a region that draws, taken first: it yields one value in every world that meets S. -/
theorem H_take {i : Nat} {oi : Oper} {fuel : Nat} {listed : Array Bool} {a : Act} {w : World} (hi : ops[i]? = some oi)
    (hs : Region.noSelect ops = true) (hf : Region.free md ops listed i = true) (hr : (Region.ready md ops listed).contains i = true)
    (hQ : ∀ v c a w, Q (.panic c) (a.put oi.dst v) w → Q (.panic c) a w) (hS : S w) (hw : Region.wanted oi (yielded ops a.tmps) = true)
    (h : ∃ v, (∀ w, S w → (execOp a.eval oi).run P w = .ok (.value v) w) ∧ wpAnyH P md ops Q S fuel (listed.setIfInBounds i true) (a.put oi.dst v) w) : wpAnyH P md ops Q S (fuel + 1) listed a w :=
  let ⟨v, h1, h2⟩ := h
  wpAnyH_take (v := v) hi hs hf hr (hQ v) (.inl ⟨hw, h1⟩) hS h2
/-- One whose guard says no. -/
theorem H_skip {i : Nat} {oi : Oper} {fuel : Nat} {listed : Array Bool} {a : Act} {w : World} (hi : ops[i]? = some oi)
    (hs : Region.noSelect ops = true) (hf : Region.free md ops listed i = true) (hr : (Region.ready md ops listed).contains i = true)
    (hQ : ∀ v c a w, Q (.panic c) (a.put oi.dst v) w → Q (.panic c) a w) (hS : S w) (hw : Region.wanted oi (yielded ops a.tmps) = false)
    (h : wpAnyH P md ops Q S fuel (listed.setIfInBounds i true) (a.put oi.dst undef) w) : wpAnyH P md ops Q S (fuel + 1) listed a w :=
  wpAnyH_take (v := undef) hi hs hf hr (hQ undef) (.inr ⟨hw, rfl⟩) hS h
/-- The one that alone may come up. -/
theorem H_one {i : Nat} {o : Oper} {fuel : Nat} {listed : Array Bool} {a : Act} {w : World} (hr : Region.ready md ops listed = [i]) (hi : ops[i]? = some o)
    (h : ∀ K' : Act → World → Prop, Shut (∀ a w, S w → (S w → wpAnyH P md ops Q S fuel (listed.setIfInBounds i true) a w) → K' a w) → if Region.wanted o (yielded ops a.tmps) = true then Oper.wp P o a w K' Q else K' (a.put o.dst undef) w) :
    wpAnyH P md ops Q S (fuel + 1) listed a w :=
  wpAnyH_ready hr (by simp) (AllReadyH.cons hi h AllReadyH.nil)
/-- S may grow on the way. -/
theorem H_turn (S' : World → Prop) (hS : ∀ w, S' w → S w) : ∀ (fuel : Nat) (listed : Array Bool) (a : Act) (w : World), wpAnyH P md ops Q S' fuel listed a w → wpAnyH P md ops Q S fuel listed a w
  | 0, _, _, _, h => h
  | fuel + 1, listed, a, w, h => ⟨h.1, fun i hi => wpOp_mono (fun _ _ ⟨h1, h2⟩ => ⟨hS _ h1, H_turn S' hS fuel _ _ _ h2⟩) (h.2 i hi)⟩
end
/-- A cell that was there when a class of worlds began is there in each of them. -/
theorem keeps {w0 w2 : World} (h : Below w0.heap.size w0 w2) {p : Addr} {v : Value} (hc : w0.cell? p = some v) : w2.cell? p = some v := by
  rw [h.cell (World.block_lt_of_cell? w0 p hc)]; exact hc
theorem keepsF {w0 w2 : World} (h : Below w0.heap.size w0 w2) {p : Addr} {b : Bool} (hl : p.block < w0.heap.size) (hc : w0.frozen? p = b) : w2.frozen? p = b := by
  rw [h.frozen hl]; exact hc
theorem below_step {w0 w1 w2 : World} (h : Below w0.heap.size w0 w1) (k : Below w1.heap.size w1 w2) : Below w0.heap.size w0 w2 := h.trans (k.mono h.size)
theorem below_of_eq {w w' : World} (h : w = w') : Below w.heap.size w w' := h ▸ Below.refl _ _
/-- A region that draws its order, every operation of which yields one value in every world of a class. -/
theorem wp_region_class {P : Program} (C : World → Prop) {id : Nat} {Q : Exit → Act → World → Prop} {a : Act} {w : World} {l : List Oper} (hm : P.follows .mixedOrders = true) (hB : Region.lexB .any l.toArray = true)
    (hC : C w.drew) (h : wpQuiet P l.toArray C (fun a' => ∀ w', C w' → Q .normal a' w') l a) : (Code.region id l.toArray true).wp P Q a w :=
  wp_region_quiet (C := C) hm hB hC (by simpa using h)
theorem quiet_call {P : Program} {f : FuncId} {args : Array Value} {w0 w : World} {v : Value} (h0 : Below w0.heap.size w0 w)
    (h : Calls P f args w fun e w' => e = .returned v ∧ Below w.heap.size w w') : Calls P f args w fun e w'' => e = .returned v ∧ Below w0.heap.size w0 w'' :=
  h.mono fun _ _ ⟨he, hm⟩ => ⟨he, below_step h0 hm⟩
theorem quiet_call_same {P : Program} {f : FuncId} {args : Array Value} {w0 w : World} {v : Value} (h0 : Below w0.heap.size w0 w)
    (h : Calls P f args w fun e w' => e = .returned v ∧ w = w') : Calls P f args w fun e w'' => e = .returned v ∧ Below w0.heap.size w0 w'' :=
  h.mono fun _ _ ⟨he, hm⟩ => ⟨he, hm ▸ h0⟩
theorem below_undrew {w w1 : World} (h : Below w.drew.heap.size w.drew w1) : Below w.heap.size w w1 := ⟨h.os, h.tape, h.output, h.size, h.block⟩
theorem drew_size (w : World) : w.drew.heap.size = w.heap.size := rfl
/-- The class for a region that ends in a store into a result's own block (from RB on). -/
theorem undr {RB : Nat} {w0 w' : World} (h : Below RB w0 w') : Below RB w0 w' ∧ ∀ b o, b < RB → w'.cell? ⟨b, o, none⟩ = w0.cell? ⟨b, o, none⟩ :=
  ⟨h, fun b o hb => h.cell (p := ⟨b, o, none⟩) hb⟩
theorem undr_step {RB : Nat} {w0 w1 w2 : World} (hRB : RB ≤ w0.heap.size) (h : Below RB w0 w1) (k : Below w1.heap.size w1 w2) : Below RB w0 w2 := h.trans (k.mono (Nat.le_trans hRB h.size))
theorem under {w0 w' : World} (h : Below w0.heap.size w0 w') : Below w0.heap.size w0 w' ∧ ∀ b o, b < w0.heap.size → w'.cell? ⟨b, o, none⟩ = w0.cell? ⟨b, o, none⟩ := ⟨h, (bcell h).1⟩
theorem under_drew {w0 w' : World} (h : Below w0.heap.size w0 w') : Below w0.heap.size w0 w'.drew ∧ ∀ b o, b < w0.heap.size → w'.drew.cell? ⟨b, o, none⟩ = w0.cell? ⟨b, o, none⟩ := under h.drew
/-- A variable of the call's own, made behind block B: what it holds. -/
def Fresh (B : Nat) (w : World) (v : Value) (cs : List Value) : Prop :=
  ∃ b, v = .pointer (some ⟨b, 0, none⟩) ∧ B ≤ b ∧ b < w.heap.size ∧ (∀ i u, cs[i]? = some u → w.cell? ⟨b, i, none⟩ = some u) ∧ ∀ o, w.frozen? ⟨b, o, none⟩ = false
theorem Fresh.below {B : Nat} {w w' : World} {v : Value} {cs : List Value} (h : Fresh B w v cs) (k : Below w.heap.size w w') : Fresh B w' v cs :=
  let ⟨b, h1, h2, h3, h4, h5⟩ := h
  ⟨b, h1, h2, Nat.lt_of_lt_of_le h3 k.size, fun i u hu => by rw [k.cell (p := ⟨b, i, none⟩) h3]; exact h4 i u hu, fun o => by rw [k.frozen (p := ⟨b, o, none⟩) h3]; exact h5 o⟩
theorem Fresh.made {B : Nat} {w : World} (cs : Array Value) (t : TypeId) (h : B ≤ w.heap.size) : Fresh B (w.alloc (.cells cs t)) (.pointer (some ⟨w.heap.size, 0, none⟩)) cs.toList :=
  ⟨w.heap.size, rfl, h, by simp, fun i u hu => by rw [World.cell?_alloc_new]; simpa using hu, fun o => by simp⟩
theorem Fresh.ne_new {B : Nat} {w : World} {v : Value} {cs : List Value} (h : Fresh B w v cs) : v ≠ .pointer (some ⟨w.heap.size, 0, none⟩) := by
  obtain ⟨b, rfl, _, h3, _⟩ := h
  intro h; injection h with h; injection h with h; injection h with h; omega
theorem below_alloc (w : World) (o : Obj) : Below w.heap.size w (w.alloc o) := (Below.refl _ _).alloc (Nat.le_refl _) _
theorem cell_at {w : World} {c : Array Value} {t : TypeId} {n : Nat} (hn : n = w.heap.size) (i : Nat) {v : Value} (h : c[i]? = some v) : (w.alloc (.cells c t)).cell? ⟨n, i, none⟩ = some v := by
  subst hn; rw [World.cell?_alloc_new]; exact h
theorem cell_up {w : World} {o : Obj} {p : Addr} {v : Value} (h : w.cell? p = some v) : (w.alloc o).cell? p = some v := keeps (below_alloc w o) h
theorem froz_at {w : World} {c : Array Value} {t : TypeId} {n : Nat} (hn : n = w.heap.size) (i : Nat) : (w.alloc (.cells c t)).frozen? ⟨n, i, none⟩ = false := by
  subst hn; simp
theorem froz_up {w : World} {o : Obj} {p : Addr} {b : Bool} (hl : p.block < w.heap.size) (h : w.frozen? p = b) : (w.alloc o).frozen? p = b := keepsF (below_alloc w o) hl h
end Go.Proofs.Ytnopdnclefopbaa
