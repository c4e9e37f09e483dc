/- How slices of bytes that come in are opened; their conversion to a string. -/
import Derived.Test.YtnopdnclefopbaaFrame
import Derived.Test.YtnopdnclefopbaaBytes
namespace Go.Proofs.Ytnopdnclefopbaa
open Go.ChangeShapes Go.WideShapes Go.ChangeAt Go.RowKit
set_option linter.unusedVariables false

theorem trod_row_bytes {W : World} {x : Addr} {zs : List Int} (hcell : ∀ i, i < zs.length → W.cell? (x.add i) = some (.int .u8 (zs.getD i 0))) (hwz : ∀ n ∈ zs, (Lit.int .u8 n).wf = true) :
    ∃ l : List UInt8, zs = l.map (fun b => (b.toNat : Int)) := by
  clear hcell
  induction zs with
  | nil => exact ⟨[], rfl⟩
  | cons z zs ih =>
    obtain ⟨l, rfl⟩ := ih (fun n hn => hwz n (List.mem_cons_of_mem _ hn))
    obtain ⟨b, rfl⟩ := u8_wf (hwz z (List.mem_cons_self ..))
    exact ⟨b :: l, rfl⟩

set_option maxRecDepth 100000 in
/-- A slice of bytes that came in, and its capacity's bytes: what is within its length. -/
theorem open_bytes {H : Type} {enc : TypeId × Value → H} {W : World} {r : Reach} {b0 base : Nat} {v : Value} {d : DataW H} {p : List MemPlace}
    (hv : Value.okWide Try.prog W r b0 33 v) (h : DataW.Trod enc Try.prog W base (fun _ => true) true 33 v d p) :
    ∃ (a : Option Addr) (len cap : Nat) (l : List UInt8), v = .slice a len cap ∧ len = l.length ∧ ∀ n, n ≤ len → Bytes W (.slice a n cap) (l.take n) := by
  obtain ⟨a, len, cap, rfl⟩ := okWide_slice Try.underlying33 hv
  obtain ⟨fuel, hf⟩ := h
  rcases open_ints Try.underlying33 Try.underlying5 (by kernel_rfl) hf with ⟨hcs, _⟩ | ⟨x, l, c, zs, hcs, _, hl, hm, hz, _, hcell, hwz⟩
  · simp [Value.cells] at hcs
    obtain ⟨rfl, rfl, rfl⟩ := hcs
    refine ⟨none, 0, 0, [], rfl, rfl, fun n hn => ?_⟩
    obtain rfl : n = 0 := by omega
    exact Bytes.nil W
  · simp [Value.cells] at hcs
    obtain ⟨rfl, rfl, rfl⟩ := hcs
    have hz : zs.length = cap := by simpa using hz
    obtain ⟨bs, rfl⟩ := trod_row_bytes hcell hwz
    refine ⟨some x, len, cap, bs.take len, rfl, by simp at hz ⊢; omega, fun n hn => ⟨some x, cap, ?_, ?_, hm, (fun h => by cases h), fun hpos => ?_⟩⟩
    · simp at hz ⊢; omega
    · simp at hz ⊢; omega
    · have hpos' : 0 < (bs.map (fun b => (b.toNat : Int))).length := by simp at hpos ⊢; omega
      obtain ⟨b, off, rfl, hc⟩ := ints_at hcell hpos'
      refine ⟨b, off, rfl, World.block_lt_of_cell? W _ (hc 0 hpos'), fun i u hu => ?_⟩
      have hi := (List.getElem?_eq_some_iff.1 hu).1
      have hi2 : i < bs.length := by simp at hi; omega
      rw [hc i (by simpa using hi2)]
      have : bs[i]? = some u := by
        rw [List.getElem?_take_of_lt (by simp at hi; omega), List.getElem?_take_of_lt (by simp at hi; omega)] at hu; exact hu
      simp [this]

theorem conv_string {w : World} {v : Value} {l : List UInt8} (hb : Bytes w v l) : (convert 33 9 v).run Try.prog w = .ok (.string ⟨l.toArray⟩) w := by
  obtain ⟨a, c, rfl, h2, h3, h4, h5⟩ := hb
  rw [run_convert_bytes_string w 33 9 5 a l.length c Try.underlying33 Try.underlying5 Try.underlying9]
  have hfold : ∀ (l : List UInt8) (s : ByteArray), (l.map (fun b => (b.toNat : Int))).foldl (fun r n => r.push (UInt8.ofNat n.toNat)) s = ⟨s.data ++ l.toArray⟩ := by
    intro l
    induction l with
    | nil => intro s; simp
    | cons b l ih => intro s; rw [List.map_cons, List.foldl_cons, ih]; simp [ByteArray.push]
  cases a with
  | none =>
    obtain rfl := h4 rfl
    have hl : l = [] := List.length_eq_zero_iff.1 (by omega)
    subst hl; rfl
  | some x =>
    have hld : (loadCells x l.length).run Try.prog w = .ok ((l.map (fun b => (b.toNat : Int))).map (Value.int .u8)).toArray w := by
      have := run_loadCells_list (P := Try.prog) (w := w) x (cells8 l) (fun j u hu => by
        have hu' : ∃ b, l[j]? = some b ∧ c8 b = u := by simpa [cells8] using hu
        obtain ⟨b, hb1, rfl⟩ := hu'
        have hj := (List.getElem?_eq_some_iff.1 hb1).1
        obtain ⟨b0, off, he, _, hc⟩ := h5 (by omega)
        injection he with he; subst he
        rw [add_at]; exact hc j b hb1)
      rw [cells8_length] at this
      rw [this]; simp [cells8]
    rw [run_bytesToString w x l.length c _ hld, hfold]
    simp [ByteArray.empty, ByteArray.emptyWithCapacity]
    rfl
end Go.Proofs.Ytnopdnclefopbaa
