/- Slices of bytes: what it is that a value reads as a list of bytes, and the laws of append, of a conversion to a string. They name no function of the program. -/
import Derived.Test.YtcebndkiagbddaaDoorRows
import Derived.Test.YtcebndkiagbddaaDoorFB
import Derived.Test.YtcebndkiagbddaaDoorKitb
import Derived.Laws.AppendOwnNone
namespace Go.Proofs.YtcebndkiagbddaaDoor
open Go.RowKit
set_option linter.unusedVariables false
set_option linter.unusedSimpArgs false

abbrev c8 (b : UInt8) : Value := .int .u8 (b.toNat : Int)
def cells8 (l : List UInt8) : List Value := l.map c8
theorem cells8_append (l m : List UInt8) : cells8 l ++ cells8 m = cells8 (l ++ m) := by simp [cells8]
theorem cells8_length (l : List UInt8) : (cells8 l).length = l.length := by simp [cells8]

/-- The value v reads as the bytes l. -/
def Bytes (w : World) (v : Value) (l : List UInt8) : Prop :=
  ∃ (a : Option Addr) (c : Nat), v = .slice a l.length c ∧ l.length ≤ c ∧ c ≤ maxLen ∧ (a = none → c = 0) ∧
    (0 < l.length → ∃ b off, a = some ⟨b, off, none⟩ ∧ b < w.heap.size ∧ ∀ i u, l[i]? = some u → w.cell? ⟨b, off + i, none⟩ = some (c8 u))
theorem Bytes.below {w w' : World} {v : Value} {l : List UInt8} (h : Bytes w v l) (hb : Below w.heap.size w w') : Bytes w' v l := by
  obtain ⟨a, c, h1, h2, h3, h4, h5⟩ := h
  refine ⟨a, c, h1, h2, h3, h4, fun hl => ?_⟩
  obtain ⟨b, off, e, hlt, hc⟩ := h5 hl
  exact ⟨b, off, e, Nat.lt_of_lt_of_le hlt hb.size, fun i u hu => by rw [hb.cell (p := ⟨b, off + i, none⟩) hlt]; exact hc i u hu⟩
theorem Bytes.nil (w : World) : Bytes w (.slice none 0 0) [] := ⟨none, 0, rfl, Nat.le_refl _, Nat.zero_le _, fun _ => rfl, fun h => by simp at h⟩
theorem add_at (b off j : Nat) : Addr.add ⟨b, off, none⟩ j = ⟨b, off + j, none⟩ := by
  unfold Addr.add; split
  · next h => subst h; rfl
  · rfl
theorem owns_bytes {w : World} {base n : Nat} {v : Value} {l : List UInt8} (h : w.ownsRow base 5 1 v n (cells8 l)) : Bytes w v l := by
  obtain ⟨h1, h2⟩ := h
  have hn : n = l.length := by rw [cells8_length] at h1; omega
  subst hn
  rcases h2 with ⟨rfl, h2⟩ | ⟨g, cap, cur, rfl, hg, hh, hc, hm, hs, ht⟩
  · have : l = [] := List.length_eq_zero_iff.1 h2
    subst this; exact Bytes.nil w
  · refine ⟨_, cap, rfl, hc, hm, (fun h => by cases h), fun hl => ⟨g, 0, rfl, ?_, fun i u hu => ?_⟩⟩
    · exact (Array.getElem?_eq_some_iff.1 hh).1
    · have hi : i < l.length := (List.getElem?_eq_some_iff.1 hu).1
      have h3 : cur.toList[i]? = some (c8 u) := by
        have : (cells8 l)[i]? = some (c8 u) := by simp [cells8, hu]
        rw [← ht, List.getElem?_take_of_lt (by omega)] at this; exact this
      rw [Nat.zero_add]
      unfold World.cell?
      simp only [hh]
      simpa using h3
theorem owns_below {w w' : World} {base n size : Nat} {e : TypeId} {v : Value} {xs : List Value} (h : w.ownsRow base e size v n xs) (hb : Below w.heap.size w w') : w'.ownsRow base e size v n xs := by
  obtain ⟨h1, h2⟩ := h
  refine ⟨h1, ?_⟩
  rcases h2 with h2 | ⟨g, cap, cur, hv, hg, hh, r⟩
  · exact .inl h2
  · exact .inr ⟨g, cap, cur, hv, hg, by rw [hb.block g (Array.getElem?_eq_some_iff.1 hh).1]; exact hh, r⟩
theorem owns_base {w : World} {base base' n size : Nat} {e : TypeId} {v : Value} {xs : List Value} (h : w.ownsRow base e size v n xs) (hb : base' ≤ base) : w.ownsRow base' e size v n xs := by
  obtain ⟨h1, h2⟩ := h
  refine ⟨h1, ?_⟩
  rcases h2 with h2 | ⟨g, cap, cur, hv, hg, r⟩
  · exact .inl h2
  · exact .inr ⟨g, cap, cur, hv, Nat.le_trans hb hg, r⟩
theorem below_grown {B n size : Nat} {e : TypeId} {w0 w w' : World} {v : Value} {xs : List Value} (h : Below B w0 w) (hown : w.ownsRow B e size v n xs) (hg : w.grownBy w' v.ownBlock) (hB : B ≤ w.heap.size) : Below B w0 w' :=
  h.grown hg hB fun k hk => (hown.lt k hk).1

theorem below_grown_nil {B : Nat} {w0 w w' : World} (h : Below B w0 w) (hg : w.grownBy w' (Value.slice none 0 0).ownBlock) (hB : B ≤ w.heap.size) : Below B w0 w' :=
  below_grown (e := 0) (size := 1) h (World.ownsRow_nil w B 0 1) hg hB

theorem info8 : (Tryd.prog.info? 5).map (fun i => (i.zero, i.size, i.bytes)) = some (some (.int .u8 0), 1, 1) := by kernel_rfl
theorem maxLen_big : 140737488355328 ≤ maxLen := by unfold maxLen; omega

section
variable {o : Oper} {a : Act} {Q : Exit → Act → World → Prop} {w : World}
set_option maxRecDepth 100000 in
/-- 'append(s, x...)': s is the call's own, x reads as bytes. -/
theorem wp_append_bytes {K : Act → World → Prop} (s x : Operand) (ho : o.op = .call { callee := .builtin .append, args := #[s, x], argTypes := #[91, 91] })
    (base : Nat) (v : Value) (n : Nat) (xs l : List UInt8) (hs : a.eval s = v) (hown : w.ownsRow base 5 1 v n (cells8 xs)) (vx : Value) (hx : a.eval x = vx) (hb : Bytes w vx l)
    (hm : n + l.length ≤ 140737488355328) (hbase : base ≤ w.heap.size)
    (h : ∀ v' w', w'.ownsRow base 5 1 v' (n + l.length) (cells8 (xs ++ l)) → w.grownBy w' v.ownBlock → K (a.put o.dst v') w') : o.wp Tryd.prog a w K Q := by
  obtain ⟨i0, hi, hz0, hz1, hz2⟩ := info_parts info8
  obtain ⟨ad, c, e1, e2, e3, e4, e5⟩ := hb
  have mb := maxLen_big
  cases ad with
  | none =>
    obtain rfl := e4 rfl
    have hl : l = [] := List.length_eq_zero_iff.1 (by omega)
    subst hl
    subst e1
    have hrun := run_append_owned_none (P := Tryd.prog) (w := w) base 91 o.type 5 i0 1 Tryd.underlying91 hi v n (cells8 xs) hown
    unfold Oper.wp execOp
    simp only [ho, resolve, invoke, builtin, Sem.run_bind, Sem.run_pure, Result.andThen_ok, List.map_toArray, List.map_cons, List.map_nil, hs, hx, List.length_nil, hrun]
    have := h v w (by simpa using hown) ⟨rfl, rfl, rfl, Nat.le_refl _, fun _ _ _ => rfl⟩
    simpa [Oper.upon] using this
  | some ad =>
    refine wp_append_own w s x 91 ho base 5 i0 (.int .u8 0) 1 1 Tryd.underlying91 hi hz0 hz1 hz2 rfl (by decide) v n (cells8 xs) hs hown ad l.length c (cells8 l) (by rw [hx, e1]) (by rw [cells8_length, Nat.mul_one]) ?_ ?_ (Nat.le_trans hm mb) (by rw [Nat.mul_one]; exact hm) hbase ?_
    · intro j u hu
      have hu' : ∃ b, l[j]? = some b ∧ c8 b = u := by simpa [cells8] using hu
      obtain ⟨b, hb1, rfl⟩ := hu'
      have hj := (List.getElem?_eq_some_iff.1 hb1).1
      obtain ⟨b0, off, he, _, hc⟩ := e5 (by omega)
      injection he with he; subst he
      rw [add_at]; exact hc j b hb1
    · intro u hu
      unfold cells8 at hu
      rw [List.mem_map] at hu
      obtain ⟨b, _, rfl⟩ := hu; rfl
    · intro v' w' h1 h2 _
      exact h v' w' (by rw [← cells8_append]; exact h1) h2
theorem wpList_append_bytes {ops : Array Oper} {rest : List Oper} (hgd : o.guard = none) (s x : Operand) (ho : o.op = .call { callee := .builtin .append, args := #[s, x], argTypes := #[91, 91] })
    (base : Nat) (v : Value) (n : Nat) (xs l : List UInt8) (hs : a.eval s = v) (hown : w.ownsRow base 5 1 v n (cells8 xs)) (vx : Value) (hx : a.eval x = vx) (hb : Bytes w vx l)
    (hm : n + l.length ≤ 140737488355328) (hbase : base ≤ w.heap.size)
    (h : ∀ v' w', w'.ownsRow base 5 1 v' (n + l.length) (cells8 (xs ++ l)) → w.grownBy w' v.ownBlock → wpList Tryd.prog ops Q rest (a.put o.dst v') w') : wpList Tryd.prog ops Q (o :: rest) a w :=
  wpList_plain hgd fun _ hK => wp_append_bytes s x ho base v n xs l hs hown vx hx hb hm hbase fun v' w' h1 h2 => hK _ _ (h v' w' h1 h2)
end
end Go.Proofs.YtcebndkiagbddaaDoor
