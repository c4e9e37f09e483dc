/- Slices of integers: what it is that a value reads as a list of integers, and the law of append. They name no function of the program. -/
import Derived.Test.YtnopdnclefopbaaRows
import Derived.Test.YtnopdnclefopbaaKit
import Derived.Test.YtnopdnclefopbaaKitb
import Derived.Test.YtnopdnclefopbaaBytes
namespace Go.Proofs.Ytnopdnclefopbaa
open Go.RowKit
set_option linter.unusedVariables false

abbrev ci (b : Int) : Value := .int .i64 b
def cellsI (l : List Int) : List Value := l.map ci
theorem cellsI_append (l m : List Int) : cellsI l ++ cellsI m = cellsI (l ++ m) := by simp [cellsI]
theorem cellsI_length (l : List Int) : (cellsI l).length = l.length := by simp [cellsI]

/-- The value v reads as the bytes l. -/
def Ints (w : World) (v : Value) (l : List Int) : Prop :=
  ∃ (a : Option Addr) (c : Nat), v = .slice a l.length c ∧ l.length ≤ c ∧ c ≤ maxLen ∧ (a = none → c = 0) ∧
    (0 < l.length → ∃ b off, a = some ⟨b, off, none⟩ ∧ b < w.heap.size ∧ ∀ i u, l[i]? = some u → w.cell? ⟨b, off + i, none⟩ = some (ci u))
theorem Ints.below {w w' : World} {v : Value} {l : List Int} (h : Ints w v l) (hb : Below w.heap.size w w') : Ints w' v l := by
  obtain ⟨a, c, h1, h2, h3, h4, h5⟩ := h
  refine ⟨a, c, h1, h2, h3, h4, fun hl => ?_⟩
  obtain ⟨b, off, e, hlt, hc⟩ := h5 hl
  exact ⟨b, off, e, Nat.lt_of_lt_of_le hlt hb.size, fun i u hu => by rw [hb.cell (p := ⟨b, off + i, none⟩) hlt]; exact hc i u hu⟩
theorem Ints.nil (w : World) : Ints w (.slice none 0 0) [] := ⟨none, 0, rfl, Nat.le_refl _, Nat.zero_le _, fun _ => rfl, fun h => by simp at h⟩
theorem owns_ints {w : World} {base n : Nat} {v : Value} {l : List Int} (h : w.ownsRow base 3 1 v n (cellsI l)) : Ints w v l := by
  obtain ⟨h1, h2⟩ := h
  have hn : n = l.length := by rw [cellsI_length] at h1; omega
  subst hn
  rcases h2 with ⟨rfl, h2⟩ | ⟨g, cap, cur, rfl, hg, hh, hc, hm, hs, ht⟩
  · have : l = [] := List.length_eq_zero_iff.1 h2
    subst this; exact Ints.nil w
  · refine ⟨_, cap, rfl, hc, hm, (fun h => by cases h), fun hl => ⟨g, 0, rfl, ?_, fun i u hu => ?_⟩⟩
    · exact (Array.getElem?_eq_some_iff.1 hh).1
    · have hi : i < l.length := (List.getElem?_eq_some_iff.1 hu).1
      have h3 : cur.toList[i]? = some (ci u) := by
        have : (cellsI l)[i]? = some (ci u) := by simp [cellsI, hu]
        rw [← ht, List.getElem?_take_of_lt (by omega)] at this; exact this
      rw [Nat.zero_add]
      unfold World.cell?
      simp only [hh]
      simpa using h3
theorem infoI : (Try.prog.info? 3).map (fun i => (i.zero, i.size, i.bytes)) = some (some (.int .i64 0), 1, 8) := by kernel_rfl
section
variable {o : Oper} {a : Act} {Q : Exit → Act → World → Prop} {w : World}
set_option maxRecDepth 100000 in
/-- 'append(s, x...)': s is the call's own, x reads as bytes. -/
theorem wp_append_ints {K : Act → World → Prop} (s x : Operand) (ho : o.op = .call { callee := .builtin .append, args := #[s, x], argTypes := #[55, 55] })
    (base : Nat) (v : Value) (n : Nat) (xs l : List Int) (hs : a.eval s = v) (hown : w.ownsRow base 3 1 v n (cellsI xs)) (vx : Value) (hx : a.eval x = vx) (hb : Ints w vx l)
    (hm : n + l.length ≤ 17592186044416) (hbase : base ≤ w.heap.size)
    (h : ∀ v' w', w'.ownsRow base 3 1 v' (n + l.length) (cellsI (xs ++ l)) → w.grownBy w' v.ownBlock → K (a.put o.dst v') w') : o.wp Try.prog a w K Q := by
  obtain ⟨i0, hi, hz0, hz1, hz2⟩ := info_parts infoI
  obtain ⟨ad, c, e1, e2, e3, e4, e5⟩ := hb
  have mb := maxLen_big
  cases ad with
  | none =>
    obtain rfl := e4 rfl
    have hl : l = [] := List.length_eq_zero_iff.1 (by omega)
    subst hl
    subst e1
    have hrun := run_append_owned_none (P := Try.prog) (w := w) base 55 o.type 3 i0 1 Try.underlying55 hi v n (cellsI xs) hown
    unfold Oper.wp execOp
    simp only [ho, resolve, invoke, builtin, Sem.run_bind, Sem.run_pure, Result.andThen_ok, List.map_toArray, List.map_cons, List.map_nil, hs, hx, List.length_nil, hrun]
    have := h v w (by simpa using hown) ⟨rfl, rfl, rfl, Nat.le_refl _, fun _ _ _ => rfl⟩
    simpa [Oper.upon] using this
  | some ad =>
    refine wp_append_own w s x 55 ho base 3 i0 (.int .i64 0) 1 8 Try.underlying55 hi hz0 hz1 hz2 rfl (by decide) v n (cellsI xs) hs hown ad l.length c (cellsI l) (by rw [hx, e1]) (by rw [cellsI_length, Nat.mul_one]) ?_ ?_ (Nat.le_trans hm (Nat.le_trans (by decide) mb)) (by omega) hbase ?_
    · intro j u hu
      have hu' : ∃ b, l[j]? = some b ∧ ci b = u := by simpa [cellsI] using hu
      obtain ⟨b, hb1, rfl⟩ := hu'
      have hj := (List.getElem?_eq_some_iff.1 hb1).1
      obtain ⟨b0, off, he, _, hc⟩ := e5 (by omega)
      injection he with he; subst he
      rw [add_at]; exact hc j b hb1
    · intro u hu
      unfold cellsI at hu
      rw [List.mem_map] at hu
      obtain ⟨b, _, rfl⟩ := hu; rfl
    · intro v' w' h1 h2 _
      exact h v' w' (by rw [← cellsI_append]; exact h1) h2
theorem wpList_append_ints {ops : Array Oper} {rest : List Oper} (hgd : o.guard = none) (s x : Operand) (ho : o.op = .call { callee := .builtin .append, args := #[s, x], argTypes := #[55, 55] })
    (base : Nat) (v : Value) (n : Nat) (xs l : List Int) (hs : a.eval s = v) (hown : w.ownsRow base 3 1 v n (cellsI xs)) (vx : Value) (hx : a.eval x = vx) (hb : Ints w vx l)
    (hm : n + l.length ≤ 17592186044416) (hbase : base ≤ w.heap.size)
    (h : ∀ v' w', w'.ownsRow base 3 1 v' (n + l.length) (cellsI (xs ++ l)) → w.grownBy w' v.ownBlock → wpList Try.prog ops Q rest (a.put o.dst v') w') : wpList Try.prog ops Q (o :: rest) a w :=
  wpList_plain hgd fun _ hK => wp_append_ints s x ho base v n xs l hs hown vx hx hb hm hbase fun v' w' h1 h2 => hK _ _ (h v' w' h1 h2)
end
end Go.Proofs.Ytnopdnclefopbaa
