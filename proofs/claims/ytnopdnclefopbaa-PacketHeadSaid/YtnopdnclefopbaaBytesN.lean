/- Bytes in memory that is new; the bytes of a string. They name no function of the program. -/
import Derived.Test.YtnopdnclefopbaaKitd
import Derived.Test.YtnopdnclefopbaaFrameb
namespace Go.Proofs.Ytnopdnclefopbaa
open Go.RowKit
set_option linter.unusedVariables false

/-- The value v reads as the bytes l, in a block from B on. -/
def NBytes (B : Nat) (w : World) (v : Value) (l : List UInt8) : Prop := Bytes w v l ∧ ∀ b o n c, v = .slice (some ⟨b, o, none⟩) n c → B ≤ b ∧ b < w.heap.size
theorem NBytes.bytes {B : Nat} {w : World} {v : Value} {l : List UInt8} (h : NBytes B w v l) : Bytes w v l := h.1
theorem NBytes.below {B : Nat} {w w' : World} {v : Value} {l : List UInt8} (h : NBytes B w v l) (hb : Below w.heap.size w w') : NBytes B w' v l := ⟨h.1.below hb, fun b o n c e => ⟨(h.2 b o n c e).1, Nat.lt_of_lt_of_le (h.2 b o n c e).2 hb.size⟩⟩
theorem NBytes.base {B B' : Nat} {w : World} {v : Value} {l : List UInt8} (h : NBytes B w v l) (hb : B' ≤ B) : NBytes B' w v l := ⟨h.1, fun b o n c e => ⟨Nat.le_trans hb (h.2 b o n c e).1, (h.2 b o n c e).2⟩⟩
theorem owns_nbytes {w : World} {B n : Nat} {v : Value} {l : List UInt8} (h : w.ownsRow B 5 1 v n (cells8 l)) : NBytes B w v l :=
  ⟨owns_bytes h, fun b o m c e => h.lt b (by rw [e]; rfl)⟩
theorem Bytes.len {w : World} {a : Option Addr} {n c : Nat} {l : List UInt8} (h : Bytes w (.slice a n c) l) : n = l.length := by
  obtain ⟨a', c', e, _⟩ := h
  injection e
theorem NBytes.slice {B : Nat} {w : World} {v : Value} {l : List UInt8} (h : NBytes B w v l) : ∃ a m c, v = .slice a m c := let ⟨a, c, e, _⟩ := h.1; ⟨a, _, c, e⟩
theorem NBytes.apart_low {B b : Nat} {w : World} {v : Value} {l : List UInt8} (h : NBytes B w v l) (hb : b < B) : Apart v (.pointer (some ⟨b, 0, none⟩)) := by
  intro b' g o off m c hp hv
  injection hp with hp; injection hp with hp; injection hp with hp; subst hp
  have := h.2 g off m c hv
  omega
theorem NBytes.apart_new {w : World} {B : Nat} {v : Value} {l : List UInt8} (h : NBytes B w v l) : Apart v (.pointer (some ⟨w.heap.size, 0, none⟩)) := by
  intro b' g o off m c hp hv
  injection hp with hp; injection hp with hp; injection hp with hp; subst hp
  have := h.2 g off m c hv
  omega
theorem NBytes.apart_old {w w' : World} {v p : Value} {l : List UInt8} {cs : List Value} (h : NBytes w.heap.size w' v l) {B : Nat} (f : Fresh B w p cs) : Apart v p := by
  intro b g o off m c hp hv
  obtain ⟨b', rfl, _, hlt, _⟩ := f
  injection hp with hp; injection hp with hp; injection hp with hp; subst hp
  have := h.2 g off m c hv
  omega
theorem setCells_size (b : Nat) : ∀ (xs : List Value) (o : Nat) (w : World), (setCells w b o xs).heap.size = w.heap.size := by
  intro xs
  induction xs with
  | nil => intro o w; rfl
  | cons x xs ih => intro o w; show (setCells (w.setCell ⟨b, o, none⟩ x) b (o + 1) xs).heap.size = _; rw [ih]; simp [World.setCell]
theorem NBytes.stored {w w' : World} {B b o : Nat} {v : Value} {l : List UInt8} {ys : List Value} (h : NBytes B w v l) (ap : Apart v (.pointer (some ⟨b, 0, none⟩))) (he : setCells w b o ys = w') : NBytes B w' v l := by
  subst he
  obtain ⟨⟨a, c, hv, h2, h3, h4, h5⟩, hB⟩ := h
  refine ⟨⟨a, c, hv, h2, h3, h4, fun hl => ?_⟩, fun b' o' n' c' e => by rw [setCells_size]; exact hB b' o' n' c' e⟩
  obtain ⟨g, off, ha, hlt, hc⟩ := h5 hl
  subst ha
  refine ⟨g, off, rfl, ?_, fun i u hu => ?_⟩
  · rw [setCells_size]; exact hlt
  · have hne := ap b g 0 off _ _ rfl hv
    rw [← hc i u hu]
    unfold World.cell?
    rw [setCells_heap b ys o w g hne]
theorem extract_take (s : ByteArray) (k : Nat) (h : k ≤ s.size) : (s.extract 0 k).data.toList = s.data.toList.take k := by
  rw [ByteArray.data_extract, Array.toList_extract]
  simp
/-- '[]byte(s)': new bytes. -/
theorem conv_bytes (w : World) (s : ByteArray) (hs : s.size ≤ maxLen) : ∃ v w', (convert 9 33 (.string s)).run Try.prog w = .ok v w' ∧ NBytes w.heap.size w' v s.data.toList ∧ Below w.heap.size w w' := by
  refine ⟨_, _, run_bytes_of_string w 9 33 5 s Try.underlying9 Try.underlying33 Try.underlying5, ⟨⟨_, _, rfl, ?_, ?_, (fun h => by cases h), fun hl => ⟨w.heap.size, 0, rfl, by simp, fun i u hu => ?_⟩⟩, fun b o n c e => ?_⟩, (Below.refl _ _).drew.alloc (Nat.le_refl _) _⟩
  · exact grownCap_ge _ _ _ _
  · exact grownCap_le_maxLen _ _ _ _ hs
  · rw [Nat.zero_add]
    have hi := (List.getElem?_eq_some_iff.1 hu).1
    have h1 : (bytesRow s (grownCap w s.size 0 5))[i]? = some (c8 u) := by
      unfold bytesRow
      rw [Array.getElem?_append_left (by simpa using hi)]
      rw [Array.getElem?_map, ← Array.getElem?_toList, hu]; rfl
    rw [cell_of_row _ w.heap.size i _ _ _ (heap_alloc_new w.drew _)]; exact h1
  · injection e with e; injection e with e; injection e with e; subst e; exact ⟨Nat.le_refl _, by simp⟩
end Go.Proofs.Ytnopdnclefopbaa
