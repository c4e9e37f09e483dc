/- From contracts to statements: rows of strings, and rows of raw things, that come in. -/
import Derived.Test.YtcebndkiagbddaaDoorLf
import Derived.SliceStrings
namespace Go.Proofs.YtcebndkiagbddaaDoor
open Go.ChangeShapes Go.WideShapes Go.ChangeAt Go.RowKit
set_option linter.unusedVariables false
set_option linter.unusedSimpArgs false

/-- A row of which each cell is read. -/
theorem ra_lz {W : World} {x : Addr} {n c sz : Nat} {f : Nat → Nat → EV} (hn : n ≤ c) (hc : c ≤ maxLen) (hsz : 0 < sz)
    (h : ∀ i, i < n → ∀ j, j < sz → ∃ u, W.cell? (x.add (i * sz + j)) = some u ∧ u.oneCell' = true ∧ RP W (PubW W) (f i j).pv u) : RA W (PubW W) noG (EV.lz n sz f).av (.slice (some x) n c) := by
  unfold EV.av EV.pv RA RP
  refine ⟨some x, c, rfl, hn, hc, (fun h => by cases h), ?_⟩
  by_cases h0 : n = 0
  · exact .inl h0
  · right
    obtain ⟨b, off, spot⟩ := x
    obtain ⟨u0, k0, _, _⟩ := h 0 (by omega) 0 hsz
    have hspot : spot = none := by simpa [Addr.add] using World.cell?_spot k0
    subst hspot
    refine ⟨b, off, rfl, RPc_of fun k q hq => ?_⟩
    have hk : k < n * sz := by have := (List.getElem?_eq_some_iff.1 hq).1; rw [lz_len] at this; exact this
    have hb : k % sz < sz := Nat.mod_lt _ hsz
    have ha : k / sz < n := (Nat.div_lt_iff_lt_mul hsz).2 hk
    have e : k / sz * sz + k % sz = k := by rw [Nat.mul_comm]; exact Nat.div_add_mod k sz
    have g := lz_get n sz f ha hb
    rw [e, hq] at g
    cases g
    obtain ⟨u, k1, k2, k3⟩ := h _ ha _ hb
    rw [e, Go.WideShapes.add_plain] at k1
    exact ⟨u, k1, World.block_lt_of_cell? W _ k1, k2, k3⟩
theorem ra_lz0 {W : World} {sz : Nat} {f : Nat → Nat → EV} : RA W (PubW W) noG (EV.lz 0 sz f).av (.slice none 0 0) := by
  unfold EV.av EV.pv RA RP
  exact ⟨none, 0, rfl, Nat.le_refl _, by unfold maxLen; omega, fun _ => rfl, .inl rfl⟩
abbrev strsE (l : List (List UInt8)) : EV := .lz l.length 1 (fun i j => .s (l.getD i []))
set_option maxRecDepth 100000 in
theorem open_strs' {H : Type} {enc : TypeId × Value → H} {W : World} {r : Reach} {b0 base : Nat} {v : Value} {d : DataW H} {p : List MemPlace}
    (hv : Value.okWide Tryd.prog W r b0 48 v) (h : DataW.Trod enc Tryd.prog W base (fun _ => true) true 48 v d p) :
    ∃ l : List (List UInt8), (l.length ≤ maxLen ∧ ∀ s ∈ l, s.length ≤ maxLen) ∧ RA W (PubW W) noG (strsE l).av v := by
  obtain ⟨a, len, cap, rfl⟩ := okWide_slice Tryd.underlying48 hv
  obtain ⟨fuel, hf⟩ := h
  rcases open_strings Tryd.underlying48 Tryd.underlying9 (by kernel_rfl) hf with ⟨hcs, _⟩ | ⟨x, l, c, ss, hcs, _, hl, hm, hz, _, hcell, hwz⟩
  · simp [Value.cells] at hcs
    obtain ⟨rfl, rfl, rfl⟩ := hcs
    exact ⟨[], ⟨Nat.zero_le _, fun s hs => by cases hs⟩, ra_lz0⟩
  · simp [Value.cells] at hcs
    obtain ⟨rfl, rfl, rfl⟩ := hcs
    have hz : ss.length = cap := by simpa using hz
    have e : len = ((ss.take len).map fun s => s.data.toList).length := by rw [List.length_map, List.length_take]; omega
    refine ⟨(ss.take len).map fun s => s.data.toList, ⟨by rw [← e]; omega, fun s hs => ?_⟩, ?_⟩
    · obtain ⟨b, hb, rfl⟩ := List.mem_map.1 hs
      have := hwz b (List.mem_of_mem_take hb)
      rw [Array.length_toList]; exact this
    · have k := ra_lz (W := W) (x := x) (n := len) (c := cap) (sz := 1) (f := fun i j => .s (((ss.take len).map fun s => s.data.toList).getD i [])) hl hm (by decide) (fun i hi j hj => by
        obtain rfl : j = 0 := by omega
        refine ⟨_, by rw [Nat.mul_one]; exact hcell i (by omega), rfl, ?_⟩
        unfold EV.pv RP
        have hi2 : i < ss.length := by omega
        have e3 : ((ss.take len).map fun s => s.data.toList).getD i [] = ss[i].data.toList := by rw [List.getD_eq_getElem?_getD, List.getElem?_map, List.getElem?_take_of_lt hi, List.getElem?_eq_getElem hi2]; rfl
        have e4 : ss.getD i ByteArray.empty = ss[i] := by rw [List.getD_eq_getElem?_getD, List.getElem?_eq_getElem hi2]; rfl
        rw [e3, e4])
      unfold strsE
      rw [← e]; exact k
/-- A raw thing. -/
structure RawS where
  k : Int
  a : Int
  b : Int
  s : List UInt8
  deriving Inhabited
def rawC (r : RawS) : Nat → EV
  | 0 => .i r.k
  | 1 => .i r.a
  | 2 => .i r.b
  | _ => .s r.s
def RawS.inn (r : RawS) : Prop := RawIn r.k r.a r.b r.s
abbrev rawsE (l : List RawS) : EV := .lz l.length 4 (fun i j => rawC (l.getD i default) j)
set_option maxRecDepth 100000 in
theorem open_raws' {H : Type} {enc : TypeId × Value → H} {W : World} {r : Reach} {b0 base : Nat} {v : Value} {d : DataW H} {p : List MemPlace}
    (hv : Value.okWide Tryd.prog W r b0 45 v) (h : DataW.Trod enc Tryd.prog W base (fun _ => true) true 45 v d p) :
    ∃ l : List RawS, (l.length ≤ maxLen ∧ ∀ x ∈ l, x.inn) ∧ RA W (PubW W) noG (rawsE l).av v := by
  obtain ⟨a, len, cap, rfl⟩ := okWide_slice Tryd.underlying45 hv
  obtain ⟨fuel, hf⟩ := h
  rcases DataW.trod_slice Tryd.underlying45 hf with ⟨hcs, _⟩ | ⟨x, l, c, elems, rest, n, _, hcs, _, _, hl, hm, hlen, hel, _⟩
  · simp [Value.cells] at hcs
    obtain ⟨rfl, rfl, rfl⟩ := hcs
    exact ⟨[], ⟨Nat.zero_le _, fun s hs => by cases hs⟩, ra_lz0⟩
  · simp [Value.cells] at hcs
    obtain ⟨rfl, rfl, rfl⟩ := hcs
    have each : ∀ i, ∃ r : RawS, i < len → r.inn ∧ ∀ j, j < 4 → ∃ u, W.cell? (x.add (i * 4 + j)) = some u ∧ u.oneCell' = true ∧ RP W (PubW W) (rawC r j).pv u := fun i => by
      by_cases hi : i < len
      · have he := hel i hi
        rw [List.getElem?_eq_getElem (by omega)] at he
        obtain ⟨cs, h1, h2⟩ := Option.bind_eq_some_iff.1 he
        have hsz : (Tryd.prog).cellsOf 75 = 4 := by kernel_rfl
        rw [hsz] at h1
        obtain ⟨_, hcl, hcell⟩ := World.cells?_some h1
        obtain ⟨c0, c1, c2, c3, rfl⟩ : ∃ c0 c1 c2 c3, cs = [c0, c1, c2, c3] := by
          match cs, hcl with
          | [c0, c1, c2, c3], _ => exact ⟨_, _, _, _, rfl⟩
        obtain ⟨y0, y1, y2, y3, m, _, _, e0, e1, e2, e3⟩ := Joins.trod_struct4 Tryd.underlying75 h2
        have e0 : DataW.trod enc Tryd.prog W base (fun _ => true) true m 3 [c0] = some y0 := e0
        have e1 : DataW.trod enc Tryd.prog W base (fun _ => true) true m 3 [c1] = some y1 := e1
        have e2 : DataW.trod enc Tryd.prog W base (fun _ => true) true m 3 [c2] = some y2 := e2
        have e3 : DataW.trod enc Tryd.prog W base (fun _ => true) true m 9 [c3] = some y3 := e3
        obtain ⟨n0, q0, _, w0⟩ := DataW.trod_int Tryd.underlying3 e0
        obtain ⟨n1, q1, _, w1⟩ := DataW.trod_int Tryd.underlying3 e1
        obtain ⟨n2, q2, _, w2⟩ := DataW.trod_int Tryd.underlying3 e2
        obtain ⟨s, q3, _, w3⟩ := DataW.trod_string Tryd.underlying9 e3
        simp only [List.cons.injEq, and_true] at q0 q1 q2 q3
        subst q0 q1 q2 q3
        have hc4 : ∀ j, j < 4 → W.cell? (x.add (i * 4 + j)) = [Value.int .i64 n0, .int .i64 n1, .int .i64 n2, .string s][j]? := fun j hj => by
          have k := hcell j hj
          rw [Addr.add_add] at k; exact k
        refine ⟨⟨n0, n1, n2, s.data.toList⟩, fun _ => ⟨⟨wf_i64 w0, wf_i64 w1, wf_i64 w2, by show s.data.toList.length ≤ maxLen; rw [Array.length_toList]; exact w3⟩, fun j hj => ?_⟩⟩
        have k := hc4 j hj
        match j, hj with
        | 0, _ => exact ⟨_, k, rfl, by unfold rawC EV.pv RP; rfl⟩
        | 1, _ => exact ⟨_, k, rfl, by unfold rawC EV.pv RP; rfl⟩
        | 2, _ => exact ⟨_, k, rfl, by unfold rawC EV.pv RP; rfl⟩
        | 3, _ => exact ⟨_, k, rfl, by unfold rawC EV.pv RP; rfl⟩
      · exact ⟨default, fun h => absurd h hi⟩
    obtain ⟨f, hff⟩ := Classical.axiomOfChoice each
    have e : len = ((List.range len).map f).length := by simp
    refine ⟨(List.range len).map f, ⟨by rw [← e]; omega, fun r hr => ?_⟩, ?_⟩
    · obtain ⟨i, hi, rfl⟩ := List.mem_map.1 hr
      exact (hff i (List.mem_range.1 hi)).1
    · have k := ra_lz (W := W) (x := x) (n := len) (c := cap) (sz := 4) (f := fun i j => rawC (((List.range len).map f).getD i default) j) hl hm (by decide) (fun i hi j hj => by
        have e2 : ((List.range len).map f).getD i default = f i := by simp [List.getD_eq_getElem?_getD, List.getElem?_map, List.getElem?_range hi]
        show ∃ u, W.cell? (x.add (i * 4 + j)) = some u ∧ u.oneCell' = true ∧ RP W (PubW W) (rawC (((List.range len).map f).getD i default) j).pv u
        rw [e2]
        exact (hff i hi).2 j hj)
      unfold rawsE
      rw [← e]; exact k
end Go.Proofs.YtcebndkiagbddaaDoor
