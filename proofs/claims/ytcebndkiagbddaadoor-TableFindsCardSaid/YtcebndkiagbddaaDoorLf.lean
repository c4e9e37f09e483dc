/- From contracts to statements: how the arguments that come in are read as values without addresses. -/
import Derived.Test.YtcebndkiagbddaaDoorRows
import Derived.Test.YtcebndkiagbddaaDoorFD
import Derived.Test.YtcebndkiagbddaaDoorPickF
import Derived.WalkKit
import Derived.ProofKit
import Derived.OpenShut
import Derived.ShutString
import Derived.ChangeOld
import Derived.Below
import Derived.Lib.SmallJoins
import Derived.Test.YtcebndkiagbddaaDoorProg
namespace Go.Proofs.YtcebndkiagbddaaDoor
open Go.ChangeShapes Go.WideShapes Go.ChangeAt Go.RowKit
open Go.ChangeMaps (open_string shut_string)
set_option linter.unusedVariables false
set_option linter.unusedSimpArgs false

theorem own : ownKnob Tryd.prog.godebug = none := by kernel_rfl
theorem laidOut : laidOutB Tryd.prog = true := by kernel_rfl
/-- All that was there is shared. -/
abbrev PubW (W : World) : Nat → Nat → Prop := fun b _ => b < W.heap.size
abbrev noG : Ghost := fun _ => none
/-- A law that returns true, by its contract. -/
theorem wt_str0 {P : Program} {H : Type} {t : TypeId} {ts : List TypeId} {bs : List UInt8} {r : List (DataW H)} (h : (DataW.weightsEach P (t :: ts) (.lit (.string bs) :: r)).all (· ≤ reachBytes) = true) : bs.length ≤ 140737488355328 := by
  have h2 := List.all_eq_true.1 h bs.length (by simp [DataW.weightsEach, DataW.weights])
  have h3 : bs.length ≤ reachBytes := by simpa using h2
  unfold reachBytes at h3
  omega
theorem law_calls {P : Program} {f : FuncId} {ags : List EV} (h : Cf P f [] ags [] (.b true)) {W : World} {vs : List Value} (hA : Amb W (PubW W)) (hR : RAs W (PubW W) noG (avL ags) vs) :
    Calls P f vs.toArray W fun e w' => e = .returned (.bool true) ∧ Below W.heap.size W w' := by
  let E : Env := ⟨W, fun _ => False, PubW W, noG, hA, fun _ _ h => h⟩
  have I : Inv E ((obs []).map (·.1)) noG (PubW W) (obs []) W := by
    exact { os := rfl, tape := rfl, output := rfl, size := Nat.le_refl _, block := fun _ _ _ => rfl,
            own := fun r => by show Hp W (PubW W) noG r .dead; unfold Hp; trivial,
            mine := fun r b c h _ => (Bool.noConfusion (show false = true from h)),
            inj := fun r r' b c c' h _ _ _ => (Bool.noConfusion (show false = true from h)),
            pub0 := fun _ _ h => h, pubs := fun _ _ h => Or.inl h, publ := fun _ _ h => h, same := fun _ _ _ => rfl, kept := fun _ _ => rfl }
  refine (h.2 E noG (PubW W) W vs rfl rfl I hR).mono ?_
  rintro e w' ⟨v, φ', Pub', rfl, J, hv⟩
  have hv' : v = .bool true := by unfold EV.av RA RP at hv; exact hv
  subst hv'
  exact ⟨rfl, J.os, J.tape, J.output, J.size, fun k hk => J.block k hk (fun h => h)⟩
section
variable {w : World} {Pub : Nat → Nat → Prop} {φ : Ghost}
theorem ra_nil : RAs w Pub φ (avL []) [] := by unfold avL RAs; rfl
theorem ra_cons {x : EV} {u : Value} {xs : List EV} {us : List Value} (h : RA w Pub φ x.av u) (k : RAs w Pub φ (avL xs) us) : RAs w Pub φ (avL (x :: xs)) (u :: us) := by
  unfold avL RAs; exact ⟨u, us, rfl, h, k⟩
theorem ra_v (u : Value) : RA w Pub φ (EV.v u).av u := by unfold EV.av RA RP; rfl
theorem ra_u8 (c : UInt8) : RA w Pub φ (EV.u8 c).av (.int .u8 (c.toNat : Int)) := by unfold EV.av RA; unfold b8P RP; rfl
theorem ra_u32 (c : UInt32) : RA w Pub φ (EV.u32 c).av (.int .u32 (c.toNat : Int)) := by unfold EV.av RA; unfold u32P RP; rfl
theorem ra_s (s : ByteArray) : RA w Pub φ (EV.s s.data.toList).av (.string s) := by
  obtain ⟨⟨l⟩⟩ := s
  unfold EV.av RA RP; rfl
theorem ra_agg {l : List EV} {vs : List Value} (h : RAs w Pub φ (avL l) vs) : RA w Pub φ (EV.agg l).av (.agg vs.toArray) := by
  unfold EV.av RA; exact ⟨vs, rfl, h⟩
end
theorem wf_i64 {n : Int} (h : (Lit.int .i64 n).wf = true) : IntIn n := by
  have h1 : IntKind.i64.min = -9223372036854775808 := rfl
  have h2 : IntKind.i64.max = 9223372036854775807 := rfl
  simp only [Lit.wf, Bool.and_eq_true, decide_eq_true_eq] at h
  omega
theorem wf_u32 {n : Int} (h : (Lit.int .u32 n).wf = true) : ∃ x : UInt32, n = (x.toNat : Int) := by
  have h1 : IntKind.u32.min = 0 := rfl
  have h2 : IntKind.u32.max = 4294967295 := rfl
  simp only [Lit.wf, Bool.and_eq_true, decide_eq_true_eq] at h
  exact ⟨UInt32.ofNat n.toNat, by rw [UInt32.toNat_ofNat']; omega⟩
theorem wf_u8 {n : Int} (h : (Lit.int .u8 n).wf = true) : ∃ x : UInt8, n = (x.toNat : Int) := by
  have h1 : IntKind.u8.min = 0 := rfl
  have h2 : IntKind.u8.max = 255 := rfl
  simp only [Lit.wf, Bool.and_eq_true, decide_eq_true_eq] at h
  exact ⟨UInt8.ofNat n.toNat, by rw [UInt8.toNat_ofNat']; omega⟩
abbrev rawE (k a b : Int) (s : List UInt8) : EV := .agg [.i k, .i a, .i b, .s s]
abbrev RawIn (k a b : Int) (s : List UInt8) : Prop := IntIn k ∧ IntIn a ∧ IntIn b ∧ s.length ≤ maxLen

set_option maxRecDepth 100000 in
theorem open_raw' {H : Type} {enc : TypeId × Value → H} {W : World} {r : Reach} {b0 base : Nat} {spare : Nat → Bool} {held : Bool} {v : Value} {d : DataW H} {p : List MemPlace}
    (hv : Value.okWide Tryd.prog W r b0 75 v) (h : DataW.Trod enc Tryd.prog W base spare held 75 v d p) :
    ∃ (k a b : Int) (s : List UInt8), RawIn k a b s ∧ RA W (PubW W) noG (rawE k a b s).av v := by
  obtain ⟨v0, v1, v2, v3, y0, y1, y2, y3, m, rfl, _, _, e0, e1, e2, e3⟩ := Joins.open_agg4 Tryd.underlying75 (by kernel_rfl) (by kernel_rfl) hv h
  obtain ⟨n0, q0, _, w0⟩ := DataW.trod_int Tryd.underlying3 e0
  obtain ⟨n1, q1, _, w1⟩ := DataW.trod_int Tryd.underlying3 e1
  obtain ⟨n2, q2, _, w2⟩ := DataW.trod_int Tryd.underlying3 e2
  obtain ⟨s, q3, _, w3⟩ := DataW.trod_string Tryd.underlying9 e3
  simp only [List.cons.injEq, and_true] at q0 q1 q2 q3
  subst q0 q1 q2 q3
  refine ⟨n0, n1, n2, s.data.toList, ⟨wf_i64 w0, wf_i64 w1, wf_i64 w2, ?_⟩, ra_agg (vs := [_, _, _, _]) (ra_cons (ra_v _) (ra_cons (ra_v _) (ra_cons (ra_v _) (ra_cons (ra_s _) ra_nil))))⟩
  rw [Array.length_toList]; exact w3
/-- A row of bytes that lies in memory. -/
theorem ra_bytes {W : World} {a : Option Addr} {cap : Nat} {l : List UInt8} (h1 : l.length ≤ cap) (h2 : cap ≤ maxLen) (h3 : a = none → cap = 0)
    (h : 0 < l.length → ∃ b off, a = some ⟨b, off, none⟩ ∧ b < W.heap.size ∧ ∀ i u, l[i]? = some u → W.cell? ⟨b, off + i, none⟩ = some (.int .u8 (u.toNat : Int))) : RA W (PubW W) noG (EV.bs l).av (.slice a l.length cap) := by
  unfold EV.av RA; unfold bytesP RP
  refine ⟨a, cap, rfl, h1, h2, h3, ?_⟩
  rcases Nat.eq_zero_or_pos l.length with e | e
  · exact .inl e
  · obtain ⟨b, off, e1, e2, e3⟩ := h e
    refine .inr ⟨b, off, e1, RPc_of fun i x hx => ?_⟩
    rw [List.getElem?_map] at hx
    cases hl : l[i]? with
    | none => rw [hl] at hx; cases hx
    | some c => rw [hl] at hx; cases hx; exact ⟨_, e3 i c hl, e2, rfl, by unfold b8P RP; rfl⟩
theorem trod_bytes {W : World} {x : Addr} {zs : List Int} (hcell : ∀ i, i < zs.length → W.cell? (x.add i) = some (.int .u8 (zs.getD i 0))) (hwz : ∀ n ∈ zs, (Lit.int .u8 n).wf = true) :
    ∃ l : List UInt8, zs = l.map (fun b => (b.toNat : Int)) := by
  clear hcell
  induction zs with
  | nil => exact ⟨[], rfl⟩
  | cons z zs ih =>
    obtain ⟨l, rfl⟩ := ih (fun n hn => hwz n (List.mem_cons_of_mem _ hn))
    obtain ⟨b, rfl⟩ := wf_u8 (hwz z (List.mem_cons_self ..))
    exact ⟨b :: l, rfl⟩
set_option maxRecDepth 100000 in
/-- A slice of bytes that came in. -/
theorem open_bytes' {H : Type} {enc : TypeId × Value → H} {W : World} {r : Reach} {b0 base : Nat} {v : Value} {d : DataW H} {p : List MemPlace}
    (hv : Value.okWide Tryd.prog W r b0 91 v) (h : DataW.Trod enc Tryd.prog W base (fun _ => true) true 91 v d p) :
    ∃ l : List UInt8, l.length ≤ maxLen ∧ RA W (PubW W) noG (EV.bs l).av v := by
  obtain ⟨a, len, cap, rfl⟩ := okWide_slice Tryd.underlying91 hv
  obtain ⟨fuel, hf⟩ := h
  rcases open_ints Tryd.underlying91 Tryd.underlying5 (by kernel_rfl) hf with ⟨hcs, _⟩ | ⟨x, l, c, zs, hcs, _, hl, hm, hz, _, hcell, hwz⟩
  · simp [Value.cells] at hcs
    obtain ⟨rfl, rfl, rfl⟩ := hcs
    exact ⟨[], Nat.zero_le _, ra_bytes (l := []) (Nat.zero_le _) (Nat.zero_le _) (fun _ => rfl) (fun h => by simp at h)⟩
  · simp [Value.cells] at hcs
    obtain ⟨rfl, rfl, rfl⟩ := hcs
    have hz : zs.length = cap := by simpa using hz
    obtain ⟨bs, rfl⟩ := trod_bytes hcell hwz
    rw [List.length_map] at hz
    have e : len = (bs.take len).length := by rw [List.length_take]; omega
    refine ⟨bs.take len, by rw [← e]; omega, ?_⟩
    have key := ra_bytes (W := W) (a := some x) (cap := cap) (l := bs.take len) (by rw [← e]; exact hl) hm (fun h => by cases h) (fun hpos => by
      have hpos' : 0 < (bs.map (fun b => (b.toNat : Int))).length := by simp only [List.length_take, List.length_map] at hpos ⊢; omega
      obtain ⟨b, off, rfl, hc⟩ := ints_at hcell hpos'
      refine ⟨b, off, rfl, World.block_lt_of_cell? W _ (hc 0 hpos'), fun i u hu => ?_⟩
      have hi := (List.getElem?_eq_some_iff.1 hu).1
      have hi1 : i < len := by simp only [List.length_take] at hi; omega
      have hi2 : i < bs.length := by simp only [List.length_take] at hi; omega
      rw [hc i (by simpa using hi2)]
      have : bs[i]? = some u := by rw [List.getElem?_take_of_lt hi1] at hu; exact hu
      simp [this])
    rw [← e] at key
    exact key
end Go.Proofs.YtcebndkiagbddaaDoor
