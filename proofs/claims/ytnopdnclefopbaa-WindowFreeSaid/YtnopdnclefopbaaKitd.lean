/- More small general lemmas: rows of the call's own beside variables of its own; they name no function of the program. -/
import Derived.Test.YtnopdnclefopbaaKitb
import Derived.Test.YtnopdnclefopbaaBytes
import Derived.Test.YtnopdnclefopbaaSha
namespace Go.Proofs.Ytnopdnclefopbaa
open Go.RowKit
set_option linter.unusedVariables false

/-- The row v does not lie in the block that p points to. -/
def Apart (v p : Value) : Prop := ∀ b g o off n c, p = .pointer (some ⟨b, o, none⟩) → v = .slice (some ⟨g, off, none⟩) n c → g ≠ b
theorem owns_apart_new {w : World} {B n size : Nat} {e : TypeId} {v : Value} {xs : List Value} (h : w.ownsRow B e size v n xs) : Apart v (.pointer (some ⟨w.heap.size, 0, none⟩)) := by
  intro b g o off m c hp hv
  injection hp with hp; injection hp with hp; injection hp with hp; subst hp
  have := h.lt g (by rw [hv]; rfl)
  omega
theorem owns_apart_old {w w' : World} {B n size : Nat} {e : TypeId} {v p : Value} {xs cs : List Value} (h : w'.ownsRow w.heap.size e size v n xs) (f : Fresh B w p cs) : Apart v p := by
  intro b g o off m c hp hv
  obtain ⟨b', rfl, _, hlt, _⟩ := f
  injection hp with hp; injection hp with hp; injection hp with hp; subst hp
  have := h.lt g (by rw [hv]; rfl)
  omega
theorem owns_apart_low {w : World} {B n size b : Nat} {e : TypeId} {v : Value} {xs : List Value} (h : w.ownsRow B e size v n xs) (hb : b < B) : Apart v (.pointer (some ⟨b, 0, none⟩)) := by
  intro b' g o off m c hp hv
  injection hp with hp; injection hp with hp; injection hp with hp; subst hp
  have := h.lt g (by rw [hv]; rfl)
  omega
theorem setCells_heap (b : Nat) : ∀ (xs : List Value) (o : Nat) (w : World) (k : Nat), k ≠ b → (setCells w b o xs).heap[k]? = w.heap[k]?
  | [], o, w, k, h => rfl
  | x :: xs, o, w, k, h => by
    show (setCells (w.setCell ⟨b, o, none⟩ x) b (o + 1) xs).heap[k]? = _
    rw [setCells_heap b xs (o + 1) _ k h]
    exact heap_setCell_other w ⟨b, o, none⟩ k x (fun e => h (by simp [e]))
/-- A row of the call's own is kept by a store into another block. -/
theorem owns_stored {w w' : World} {B n size b o : Nat} {e : TypeId} {v : Value} {xs ys : List Value} (h : w.ownsRow B e size v n xs) (ap : Apart v (.pointer (some ⟨b, 0, none⟩))) (he : setCells w b o ys = w') :
    w'.ownsRow B e size v n xs := by
  subst he
  obtain ⟨h1, h2⟩ := h
  refine ⟨h1, ?_⟩
  rcases h2 with h2 | ⟨g, cap, cur, hv, hg, hh, r⟩
  · exact .inl h2
  · exact .inr ⟨g, cap, cur, hv, hg, by rw [setCells_heap b ys o w g (ap b g 0 0 n cap rfl hv)]; exact hh, r⟩
theorem owns_slice {w : World} {base n size : Nat} {e : TypeId} {v : Value} {xs : List Value} (h : w.ownsRow base e size v n xs) : ∃ a m c, v = .slice a m c := by
  rcases h.2 with ⟨rfl, h2⟩ | ⟨g, cap, _, hv, _⟩
  · exact ⟨_, _, _, rfl⟩
  · exact ⟨_, _, _, hv⟩
theorem slice_from8 (wx : World) (a : Option Addr) (n c k : Nat) (h : k ≤ n) :
    Sem.run Try.prog (Instr.slice 33 (.slice a n c) (some (.int .i64 (k : Int))) none none) wx = .ok (sliced a k n c 1) wx := by
  rw [run_slice_l (P := Try.prog) (w := wx) 33 a n c (by kernel_rfl) .i64 (k : Int) (by omega) (by omega)]
  rw [show (sizeOf (Try.prog.elem 33)).run Try.prog wx = .ok 1 wx from by kernel_rfl]
  rfl
theorem Bytes.sliced {w : World} {a : Option Addr} {n c k : Nat} {l : List UInt8} (hb : Bytes w (.slice a n c) l) (hk : k ≤ n) :
    Bytes w (Go.sliced a k n c 1) (l.drop k) := by
  obtain ⟨a', c', he, h2, h3, h4, h5⟩ := hb
  injection he with e1 e2 e3
  subst e1 e2 e3
  unfold Go.sliced
  refine ⟨_, _, by rw [List.length_drop], by rw [List.length_drop]; omega, by omega, fun h => ?_, fun hp => ?_⟩
  · split at h
    · have := h4 h; omega
    · cases a with
      | none => have := h4 rfl; omega
      | some a => simp at h
  · rw [List.length_drop] at hp
    obtain ⟨b, off, rfl, hlt, hc⟩ := h5 (by omega)
    refine ⟨b, off + k, ?_, hlt, fun i u hi => ?_⟩
    · rw [if_neg (by omega)]; simp [Nat.mul_one, add_at]
    · rw [List.getElem?_drop] at hi
      rw [show off + k + i = off + (k + i) from by omega]; exact hc _ _ hi
end Go.Proofs.Ytnopdnclefopbaa
