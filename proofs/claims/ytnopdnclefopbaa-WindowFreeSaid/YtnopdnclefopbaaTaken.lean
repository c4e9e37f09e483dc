/- taken: a window of raw numbers, one by one. Its contract. -/
import Derived.Test.YtnopdnclefopbaaInts
import Derived.Test.YtnopdnclefopbaaRaw
import Derived.Test.YtnopdnclefopbaaWindowb
import Derived.Test.YtnopdnclefopbaaMathWin
import Derived.Test.YtnopdnclefopbaaShelf
import Derived.Test.YtnopdnclefopbaaKitd
namespace Go.Proofs.Ytnopdnclefopbaa
open Go.RowKit
set_option linter.unusedVariables false

theorem contains_ints {v : Value} {l : List Int} {w : World} (x : Int) (hb : Ints w v l) :
    Calls Try.prog 40 #[v, .int .i64 x] w fun e w' => e = .returned (.bool (l.contains x)) ∧ w' = w := by
  obtain ⟨a, c, rfl, h2, h3, h4, h5⟩ := hb
  by_cases hl : 0 < l.length
  · obtain ⟨b, off, rfl, hlt, hc⟩ := h5 hl
    refine (Try.slices_Contains_int b off l.length c l x w (Nat.le_refl _) (by unfold maxLen at h3; omega) (fun j hj => ?_)).mono fun _ _ ⟨h, hw⟩ => ⟨by rw [h, List.take_length], hw⟩
    have := hc j l[j] (List.getElem?_eq_getElem hj)
    rw [this, List.getD_eq_getElem?_getD, List.getElem?_eq_getElem hj]; rfl
  · have : l = [] := List.length_eq_zero_iff.1 (by omega)
    subst this
    exact Try.slices_Contains_int_empty a c x w

theorem Ints.one (w : World) (n : Int) (t : TypeId) : Ints (w.alloc (.cells #[.int .i64 n] t)) (.slice (some ⟨w.heap.size, 0, none⟩) 1 1) [n] :=
  ⟨_, 1, rfl, Nat.le_refl _, by unfold maxLen; omega, (fun h => by cases h), fun _ => ⟨w.heap.size, 0, rfl, by simp, fun i u hu => by
    cases i with
    | zero => simp at hu; subst hu; simp
    | succ i => simp at hu⟩⟩
theorem grown_cell {w0 w w' : World} {v : Value} {b o B n size : Nat} {e : TypeId} {xs : List Value} {u : Value} (h : w0.ownsRow B e size v n xs) (hg : w.grownBy w' v.ownBlock) (hne : Apart v (.pointer (some ⟨b, 0, none⟩))) (hc : w.cell? ⟨b, o, none⟩ = some u) : w'.cell? ⟨b, o, none⟩ = some u := by
  refine hg.cell hc fun he => ?_
  rcases h.2 with ⟨rfl, _⟩ | ⟨g, cap, cur, rfl, _⟩
  · cases he
  · have := hne b g 0 0 _ _ rfl rfl
    exact this (by injection he with he; exact he.symm)
theorem grown_frozen {w0 w w' : World} {v : Value} {b o B n size : Nat} {e : TypeId} {xs : List Value} {r : Bool} (h : w0.ownsRow B e size v n xs) (hg : w.grownBy w' v.ownBlock) (hne : Apart v (.pointer (some ⟨b, 0, none⟩))) (hb : b < w.heap.size) (hc : w.frozen? ⟨b, o, none⟩ = r) : w'.frozen? ⟨b, o, none⟩ = r := by
  rw [← hc]
  have : w'.heap[b]? = w.heap[b]? := hg.block b hb fun he => by
    rcases h.2 with ⟨rfl, _⟩ | ⟨g, cap, cur, rfl, _⟩
    · cases he
    · have := hne b g 0 0 _ _ rfl rfl
      exact this (by injection he with he; exact he.symm)
  unfold World.frozen?
  rw [this]
theorem cell_set {w : World} {b p c o : Nat} {x u : Value} (hne : c ≠ b) (h : w.cell? ⟨c, o, none⟩ = some u) : (w.setCell ⟨b, p, none⟩ x).cell? ⟨c, o, none⟩ = some u := by
  rw [World.cell?_setCell_other w _ _ x (fun e => by injection e with e; exact hne e.symm)]; exact h
theorem take_seven (w : World) : Calls Try.prog 36 #[.agg #[.bool false, .int .i64 0, .int .u64 0], .int .i64 7] w fun e w' => e = .returned (.tuple #[.agg #[.bool true, .int .i64 7, .int .u64 1], .int .i64 0]) ∧ Below w.heap.size w w' := take_none 7 w (by decide)
theorem take_both (s : Bool) (l b n : Nat) (came : List Nat) (h : SeenOk s l b) (hn : n ≤ 1099511627776) (HR : Hid (Rep came s l b)) : ∃ (xs : Bool) (xl xb : Nat) (ev : Int),
    Hid (∀ w, Calls Try.prog 36 #[seenV s l b, .int .i64 (n : Int)] w fun e w' => e = .returned (.tuple #[.agg #[.bool xs, .int .i64 (xl : Int), .int .u64 (xb : Int)], .int .i64 ev]) ∧ Below w.heap.size w w') ∧
    Hid ((ev = 10 ∧ isLate came n) ∨ (ev = 0 ∧ ¬ isLate came n ∧ Rep (came ++ [n]) xs xl xb)) := by
  by_cases hv : vHas s l b n = true
  · exact ⟨false, 0, 0, 10, Lib.hid fun w => take_old s l b n w h hn (Lib.hid hv), Lib.hid (.inl ⟨rfl, (rep_has HR.out n).1 hv⟩)⟩
  · have hl : ¬ isLate came n := fun h => hv ((rep_has HR.out n).2 h)
    exact ⟨true, _, _, 0, Lib.hid fun w => take_fresh s l b n w h hn (Lib.hid (by simpa using hv)), Lib.hid (.inr ⟨rfl, hl, rep_take HR.out n hl⟩)⟩
theorem HC_below {w w' : World} {ca : Option Addr} {l : List Int} (h : ∃ b off, ca = some ⟨b, off, none⟩ ∧ b < w.heap.size ∧ ∀ i u, l[i]? = some u → w.cell? ⟨b, off + i, none⟩ = some (ci u)) (hb : Below w.heap.size w w') :
    ∃ b off, ca = some ⟨b, off, none⟩ ∧ b < w'.heap.size ∧ ∀ i u, l[i]? = some u → w'.cell? ⟨b, off + i, none⟩ = some (ci u) := by
  obtain ⟨b, off, h1, h2, h3⟩ := h
  exact ⟨b, off, h1, Nat.lt_of_lt_of_le h2 hb.size, fun i u hi => keeps hb (h3 i u hi)⟩
def TakenPost (w : World) (e : Ending) (w' : World) : Prop :=
  ∃ (s : Bool) (l b : Nat) (p : Value) (came : List Nat), e = .returned (.tuple #[seenV s l b, p, .bool true]) ∧ Rep came s l b ∧ (∀ c ∈ came, c < 200) ∧
    w'.ownsRow w.heap.size 3 1 p came.length (cellsI (came.map fun c : Nat => (c : Int))) ∧ Below w.heap.size w w'

set_option maxRecDepth 100000 in
set_option maxHeartbeats 3200000 in
theorem taken_any (v : Value) (l : List Int) (w : World) (hb : Ints w v l) (hok : ∀ x ∈ l, IntOk x) : Calls Try.prog 34 #[v] w (TakenPost w) := by
  obtain ⟨a, c, rfl, h2, h3, h4, h5⟩ := hb
  have H5 := Lib.hid h5
  have HOK := Lib.hid hok
  clear h4 h5 hok
  go_enter Try.func34, Try.ntmps34
  go_wp2_with (fail)
  have hw : Below w.heap.size w ((w.alloc (Obj.cells #[.bool false, .int .i64 0, .int .u64 0] 58)).alloc (Obj.cells #[.bool false, .int .i64 0, .int .u64 0] 58)) := ((((Below.refl w.heap.size w).alloc (by first | exact Nat.le_refl _ | (simp; done) | (simp; omega)) _)).alloc (by first | exact Nat.le_refl _ | (simp; done) | (simp; omega)) _)
  have hc0_0 : ((w.alloc (Obj.cells #[.bool false, .int .i64 0, .int .u64 0] 58)).alloc (Obj.cells #[.bool false, .int .i64 0, .int .u64 0] 58)).cell? ⟨w.heap.size, 0, none⟩ = some (.bool false) := cell_up (cell_at (by first | rfl | simp) 0 rfl)
  have hc0_1 : ((w.alloc (Obj.cells #[.bool false, .int .i64 0, .int .u64 0] 58)).alloc (Obj.cells #[.bool false, .int .i64 0, .int .u64 0] 58)).cell? ⟨w.heap.size, 1, none⟩ = some (.int .i64 0) := cell_up (cell_at (by first | rfl | simp) 1 rfl)
  have hc0_2 : ((w.alloc (Obj.cells #[.bool false, .int .i64 0, .int .u64 0] 58)).alloc (Obj.cells #[.bool false, .int .i64 0, .int .u64 0] 58)).cell? ⟨w.heap.size, 2, none⟩ = some (.int .u64 0) := cell_up (cell_at (by first | rfl | simp) 2 rfl)
  have hc1_0 : ((w.alloc (Obj.cells #[.bool false, .int .i64 0, .int .u64 0] 58)).alloc (Obj.cells #[.bool false, .int .i64 0, .int .u64 0] 58)).cell? ⟨w.heap.size + 1, 0, none⟩ = some (.bool false) := cell_at (by first | rfl | simp) 0 rfl
  have hc1_1 : ((w.alloc (Obj.cells #[.bool false, .int .i64 0, .int .u64 0] 58)).alloc (Obj.cells #[.bool false, .int .i64 0, .int .u64 0] 58)).cell? ⟨w.heap.size + 1, 1, none⟩ = some (.int .i64 0) := cell_at (by first | rfl | simp) 1 rfl
  have hc1_2 : ((w.alloc (Obj.cells #[.bool false, .int .i64 0, .int .u64 0] 58)).alloc (Obj.cells #[.bool false, .int .i64 0, .int .u64 0] 58)).cell? ⟨w.heap.size + 1, 2, none⟩ = some (.int .u64 0) := cell_at (by first | rfl | simp) 2 rfl
  have hs0 : w.heap.size < ((w.alloc (Obj.cells #[.bool false, .int .i64 0, .int .u64 0] 58)).alloc (Obj.cells #[.bool false, .int .i64 0, .int .u64 0] 58)).heap.size := by simp <;> omega
  have hs1 : w.heap.size + 1 < ((w.alloc (Obj.cells #[.bool false, .int .i64 0, .int .u64 0] 58)).alloc (Obj.cells #[.bool false, .int .i64 0, .int .u64 0] 58)).heap.size := by simp <;> omega
  have hz0 : ∀ o, ((w.alloc (Obj.cells #[.bool false, .int .i64 0, .int .u64 0] 58)).alloc (Obj.cells #[.bool false, .int .i64 0, .int .u64 0] 58)).frozen? ⟨w.heap.size, o, none⟩ = false := fun o => froz_up (by first | (simp; done) | (simp; omega)) (froz_at (by first | rfl | simp) o)
  have hz1 : ∀ o, ((w.alloc (Obj.cells #[.bool false, .int .i64 0, .int .u64 0] 58)).alloc (Obj.cells #[.bool false, .int .i64 0, .int .u64 0] 58)).frozen? ⟨w.heap.size + 1, o, none⟩ = false := fun o => froz_at (by first | rfl | simp) o
  generalize ((w.alloc (Obj.cells #[.bool false, .int .i64 0, .int .u64 0] 58)).alloc (Obj.cells #[.bool false, .int .i64 0, .int .u64 0] 58)) = w0 at *
  have hB : Below w0.heap.size w0 w0 := Below.refl _ _
  go_loopw [6, 19] (fun p i wr => ∃ (k : Nat) (s : Bool) (m b : Nat) (came : List Nat), k ≤ l.length ∧ i = .int .i64 (k : Int) ∧ Rep came s m b ∧ (∀ c ∈ came, c < 200) ∧ came.length ≤ 41 ∧ came.length ≤ k ∧
      wr.cell? ⟨w.heap.size + 1, 0, none⟩ = some (.bool s) ∧ wr.cell? ⟨w.heap.size + 1, 1, none⟩ = some (.int .i64 (m : Int)) ∧ wr.cell? ⟨w.heap.size + 1, 2, none⟩ = some (.int .u64 (b : Int)) ∧
      wr.cell? ⟨w.heap.size, 0, none⟩ = some (.bool false) ∧ wr.cell? ⟨w.heap.size, 1, none⟩ = some (.int .i64 0) ∧ wr.cell? ⟨w.heap.size, 2, none⟩ = some (.int .u64 0) ∧
      (∀ o, wr.frozen? ⟨w.heap.size, o, none⟩ = false) ∧ (∀ o, wr.frozen? ⟨w.heap.size + 1, o, none⟩ = false) ∧ w.heap.size + 1 < wr.heap.size ∧
      wr.ownsRow (w.heap.size + 2) 3 1 p came.length (cellsI (came.map fun c : Nat => (c : Int))) ∧ Below w.heap.size w wr) (fun _ i _ => l.length - (intOf i).toNat)
  case atStart => exact ⟨0, false, 0, 0, [], Nat.zero_le _, rfl, rep_nil, by simp, by simp, by simp, hc1_0, hc1_1, hc1_2, hc0_0, hc0_1, hc0_2, hz0, hz1, hs1, World.ownsRow_nil _ _ _ _, hw⟩
  case round =>
    obtain ⟨k, s, m, b, came, hk, rfl, hR, h200, h41, hck, x0, x1, x2, y0, y1, y2, z0, z1, hsz, ho, hB⟩ := hrel
    by_cases hlt : k < l.length
    · obtain ⟨b0, off, rfl, hbl, hc⟩ := H5.out (by omega)
      obtain ⟨x, hx⟩ : ∃ x, x = l[k] := ⟨_, rfl⟩
      have hcell : wr.cell? ⟨b0, off + k, none⟩ = some (.int .i64 x) := by
        rw [hB.cell (p := ⟨b0, off + k, none⟩) hbl, hx]; exact hc k _ (List.getElem?_eq_getElem hlt)
      have hxo : IntOk x := by rw [hx]; exact HOK.out _ (List.getElem_mem hlt)
      clear hc hx
      by_cases h40 : 40 < k
      · go_wp2_with (fail)
        refine (take_seven _).mono ?_
        rintro e w1 ⟨rfl, hb1⟩
        replace x0 := keeps hb1 x0
        replace x1 := keeps hb1 x1
        replace x2 := keeps hb1 x2
        replace y0 := keeps hb1 y0
        replace y1 := keeps hb1 y1
        replace y2 := keeps hb1 y2
        replace z0 := fun o => keepsF hb1 (by simp; omega) (z0 o)
        replace hB := hB.trans (hb1.mono hB.size)
        replace ho := owns_below ho hb1
        replace hsz := Nat.lt_of_lt_of_le hsz hb1.size
        have RR := Lib.hid hR
        clear hR H5 z1
        go_wp2_with (fail)
        have hw2 : Below w1.heap.size w1 (w1.alloc (Obj.cells #[.bool true, .int .i64 7, .int .u64 1] 58)) := below_alloc _ _
        have p0 : (w1.alloc (Obj.cells #[.bool true, .int .i64 7, .int .u64 1] 58)).cell? ⟨w1.heap.size, 0, none⟩ = some (.bool true) := cell_at rfl 0 rfl
        have p1 : (w1.alloc (Obj.cells #[.bool true, .int .i64 7, .int .u64 1] 58)).cell? ⟨w1.heap.size, 1, none⟩ = some (.int .i64 7) := cell_at rfl 1 rfl
        have p2 : (w1.alloc (Obj.cells #[.bool true, .int .i64 7, .int .u64 1] 58)).cell? ⟨w1.heap.size, 2, none⟩ = some (.int .u64 1) := cell_at rfl 2 rfl
        have ps : w1.heap.size < (w1.alloc (Obj.cells #[.bool true, .int .i64 7, .int .u64 1] 58)).heap.size := by simp
        have pz : ∀ o, (w1.alloc (Obj.cells #[.bool true, .int .i64 7, .int .u64 1] 58)).frozen? ⟨w1.heap.size, o, none⟩ = false := fun o => froz_at rfl o
        generalize (w1.alloc (Obj.cells #[.bool true, .int .i64 7, .int .u64 1] 58)) = w2 at *
        replace x0 := keeps hw2 x0
        replace x1 := keeps hw2 x1
        replace x2 := keeps hw2 x2
        replace y0 := keeps hw2 y0
        replace y1 := keeps hw2 y1
        replace y2 := keeps hw2 y2
        replace z0 := fun o => keepsF hw2 (by simp; omega) (z0 o)
        replace hB := hB.trans (hw2.mono hB.size)
        replace ho := owns_below ho hw2
        have hlt1 : w.heap.size < w1.heap.size := by omega
        refine wp_region_held_drew (S := fun wS => Below w.heap.size w2 wS ∧ wS.cell? ⟨w.heap.size + 1, 0, none⟩ = some (.bool s) ∧ wS.cell? ⟨w.heap.size + 1, 1, none⟩ = some (.int .i64 (m : Int)) ∧ wS.cell? ⟨w.heap.size + 1, 2, none⟩ = some (.int .u64 (b : Int)) ∧ wS.cell? ⟨w1.heap.size, 0, none⟩ = some (.bool true) ∧ wS.cell? ⟨w1.heap.size, 1, none⟩ = some (.int .i64 7)) (by kernel_rfl) (by exact ⟨(Below.refl _ _).drew, x0, x1, x2, p0, p1⟩) (fun hHeld => ?_)
        (refine H_take (i := 0) rfl (by kernel_rfl) (by kernel_rfl) (by kernel_rfl) (fun _ _ _ _ h => h) hHeld (by rfl) ?_; apply Exists.intro; refine ⟨fun w9 hS9 => ?_, ?_⟩; (focus ((try dsimp only at hS9); go_split_ands; go_simp; first | done | with_reducible rfl | exact rfl)); try simp only [Act.put, List.setIfInBounds_toArray, List.set, List.getElem_toArray, List.getElem_cons_zero, List.getElem_cons_succ])
        (refine H_take (i := 1) rfl (by kernel_rfl) (by kernel_rfl) (by kernel_rfl) (fun _ _ _ _ h => h) hHeld (by rfl) ?_; apply Exists.intro; refine ⟨fun w9 hS9 => ?_, ?_⟩; (focus ((try dsimp only at hS9); go_split_ands; go_simp; first | done | with_reducible rfl | exact rfl)); try simp only [Act.put, List.setIfInBounds_toArray, List.set, List.getElem_toArray, List.getElem_cons_zero, List.getElem_cons_succ])
        (refine H_take (i := 2) rfl (by kernel_rfl) (by kernel_rfl) (by kernel_rfl) (fun _ _ _ _ h => h) hHeld (by rfl) ?_; apply Exists.intro; refine ⟨fun w9 hS9 => ?_, ?_⟩; (focus ((try dsimp only at hS9); go_split_ands; go_simp; first | done | with_reducible rfl | exact rfl)); try simp only [Act.put, List.setIfInBounds_toArray, List.set, List.getElem_toArray, List.getElem_cons_zero, List.getElem_cons_succ])
        (refine H_take (i := 3) rfl (by kernel_rfl) (by kernel_rfl) (by kernel_rfl) (fun _ _ _ _ h => h) hHeld (by rfl) ?_; apply Exists.intro; refine ⟨fun w9 hS9 => ?_, ?_⟩; (focus ((try dsimp only at hS9); go_split_ands; go_simp; first | done | with_reducible rfl | exact rfl)); try simp only [Act.put, List.setIfInBounds_toArray, List.set, List.getElem_toArray, List.getElem_cons_zero, List.getElem_cons_succ])
        (refine H_take (i := 4) rfl (by kernel_rfl) (by kernel_rfl) (by kernel_rfl) (fun _ _ _ _ h => h) hHeld (by rfl) ?_; apply Exists.intro; refine ⟨fun w9 hS9 => ?_, ?_⟩; (focus ((try dsimp only at hS9); go_split_ands; go_simp; first | done | with_reducible rfl | exact rfl)); try simp only [Act.put, List.setIfInBounds_toArray, List.set, List.getElem_toArray, List.getElem_cons_zero, List.getElem_cons_succ])
        (refine H_take (i := 5) rfl (by kernel_rfl) (by kernel_rfl) (by kernel_rfl) (fun _ _ _ _ h => h) hHeld (by rfl) ?_; apply Exists.intro; refine ⟨fun w9 hS9 => ?_, ?_⟩; (focus ((try dsimp only at hS9); go_split_ands; go_simp; first | done | with_reducible rfl | exact rfl)); try simp only [Act.put, List.setIfInBounds_toArray, List.set, List.getElem_toArray, List.getElem_cons_zero, List.getElem_cons_succ])
        (refine H_take (i := 6) rfl (by kernel_rfl) (by kernel_rfl) (by kernel_rfl) (fun _ _ _ _ h => h) hHeld (by rfl) ?_; apply Exists.intro; refine ⟨fun w9 hS9 => ?_, ?_⟩; (focus ((try dsimp only at hS9); go_split_ands; go_simp; first | done | with_reducible rfl | exact rfl)); try simp only [Act.put, List.setIfInBounds_toArray, List.set, List.getElem_toArray, List.getElem_cons_zero, List.getElem_cons_succ])
        (refine H_take (i := 7) rfl (by kernel_rfl) (by kernel_rfl) (by kernel_rfl) (fun _ _ _ _ h => h) hHeld (by rfl) ?_; apply Exists.intro; refine ⟨fun w9 hS9 => ?_, ?_⟩; (focus ((try dsimp only at hS9); go_split_ands; go_simp; first | done | with_reducible rfl | exact rfl)); try simp only [Act.put, List.setIfInBounds_toArray, List.set, List.getElem_toArray, List.getElem_cons_zero, List.getElem_cons_succ])
        (refine H_take (i := 8) rfl (by kernel_rfl) (by kernel_rfl) (by kernel_rfl) (fun _ _ _ _ h => h) hHeld (by rfl) ?_; apply Exists.intro; refine ⟨fun w9 hS9 => ?_, ?_⟩; (focus ((try dsimp only at hS9); go_split_ands; go_simp; first | done | with_reducible rfl | exact rfl)); try simp only [Act.put, List.setIfInBounds_toArray, List.set, List.getElem_toArray, List.getElem_cons_zero, List.getElem_cons_succ])
        (refine H_take (i := 9) rfl (by kernel_rfl) (by kernel_rfl) (by kernel_rfl) (fun _ _ _ _ h => h) hHeld (by rfl) ?_; apply Exists.intro; refine ⟨fun w9 hS9 => ?_, ?_⟩; (focus ((try dsimp only at hS9); go_split_ands; go_simp; first | done | with_reducible rfl | exact rfl)); try simp only [Act.put, List.setIfInBounds_toArray, List.set, List.getElem_toArray, List.getElem_cons_zero, List.getElem_cons_succ])
        (refine H_take (i := 10) rfl (by kernel_rfl) (by kernel_rfl) (by kernel_rfl) (fun _ _ _ _ h => h) hHeld (by rfl) ?_; apply Exists.intro; refine ⟨fun w9 hS9 => ?_, ?_⟩; (focus ((try dsimp only at hS9); go_split_ands; go_simp; first | done | with_reducible rfl | exact rfl)); try simp only [Act.put, List.setIfInBounds_toArray, List.set, List.getElem_toArray, List.getElem_cons_zero, List.getElem_cons_succ])
        (refine H_take (i := 11) rfl (by kernel_rfl) (by kernel_rfl) (by kernel_rfl) (fun _ _ _ _ h => h) hHeld (by rfl) ?_; apply Exists.intro; refine ⟨fun w9 hS9 => ?_, ?_⟩; (focus ((try dsimp only at hS9); go_split_ands; go_simp; first | done | with_reducible rfl | exact rfl)); try simp only [Act.put, List.setIfInBounds_toArray, List.set, List.getElem_toArray, List.getElem_cons_zero, List.getElem_cons_succ])
        (refine H_take (i := 12) rfl (by kernel_rfl) (by kernel_rfl) (by kernel_rfl) (fun _ _ _ _ h => h) hHeld (by rfl) ?_; apply Exists.intro; refine ⟨fun w9 hS9 => ?_, ?_⟩; (focus ((try dsimp only at hS9); go_split_ands; go_simp; first | done | with_reducible rfl | exact rfl)); try simp only [Act.put, List.setIfInBounds_toArray, List.set, List.getElem_toArray, List.getElem_cons_zero, List.getElem_cons_succ])
        refine H_one (i := 13) (by kernel_rfl) rfl (fun K hK => ?_)
        go_simp
        skip
        refine hK.out _ _ (by (try dsimp only); exact ⟨((hHeld.1.setCell (Nat.le_refl _) _).setCell (Nat.le_refl _) _).setCell (Nat.le_refl _) _, cell_set (Nat.ne_of_gt (Nat.lt_succ_self _)) (cell_set (Nat.ne_of_gt (Nat.lt_succ_self _)) (cell_set (Nat.ne_of_gt (Nat.lt_succ_self _)) hHeld.2.1)), cell_set (Nat.ne_of_gt (Nat.lt_succ_self _)) (cell_set (Nat.ne_of_gt (Nat.lt_succ_self _)) (cell_set (Nat.ne_of_gt (Nat.lt_succ_self _)) hHeld.2.2.1)), cell_set (Nat.ne_of_gt (Nat.lt_succ_self _)) (cell_set (Nat.ne_of_gt (Nat.lt_succ_self _)) (cell_set (Nat.ne_of_gt (Nat.lt_succ_self _)) hHeld.2.2.2.1)), cell_set (Nat.ne_of_gt hlt1) (cell_set (Nat.ne_of_gt hlt1) (cell_set (Nat.ne_of_gt hlt1) hHeld.2.2.2.2.1)), cell_set (Nat.ne_of_gt hlt1) (cell_set (Nat.ne_of_gt hlt1) (cell_set (Nat.ne_of_gt hlt1) hHeld.2.2.2.2.2))⟩) (fun hHeld => ?_)
        clear hK K
        try simp only [Act.put, List.setIfInBounds_toArray, List.set, List.getElem_toArray, List.getElem_cons_zero, List.getElem_cons_succ]
        (refine H_take (i := 14) rfl (by kernel_rfl) (by kernel_rfl) (by kernel_rfl) (fun _ _ _ _ h => h) hHeld (by rfl) ?_; apply Exists.intro; refine ⟨fun w9 hS9 => ?_, ?_⟩; (focus ((try dsimp only at hS9); go_split_ands; go_simp; first | done | with_reducible rfl | exact rfl)); try simp only [Act.put, List.setIfInBounds_toArray, List.set, List.getElem_toArray, List.getElem_cons_zero, List.getElem_cons_succ])
        (refine H_take (i := 15) rfl (by kernel_rfl) (by kernel_rfl) (by kernel_rfl) (fun _ _ _ _ h => h) hHeld (by rfl) ?_; apply Exists.intro; refine ⟨fun w9 hS9 => ?_, ?_⟩; (focus ((try dsimp only at hS9); go_split_ands; go_simp; first | done | with_reducible rfl | exact rfl)); try simp only [Act.put, List.setIfInBounds_toArray, List.set, List.getElem_toArray, List.getElem_cons_zero, List.getElem_cons_succ])
        refine wpAnyH_done (by kernel_rfl) ?_ _
        have hBe := hB.trans hHeld.1
        clear hHeld
        go_wp2_with (fail)
        refine bodyPost_ret (v := .tuple #[.agg #[.bool s, .int .i64 (m : Int), .int .u64 (b : Int)], u6, .bool true]) (by simp [results, Try.results34, go_sem, y0, y1, y2]) rfl ?_
        exact ⟨s, m, b, u6, came, rfl, RR.out, h200, owns_base (owns_below (owns_stored (o := 0) (ys := [.bool s, .int .i64 (m : Int), .int .u64 (b : Int)]) ho (owns_apart_low ho (show w.heap.size < w.heap.size + 2 by omega)) rfl) (Below.refl _ _).drew) (show w.heap.size ≤ w.heap.size + 2 by omega), hBe⟩
      · obtain ⟨n, hn⟩ := Int.eq_ofNat_of_zero_le (ppick_pos (n := x) (m := 200) (by omega)).1
        have hn2 : n < 200 := by have := (ppick_pos (n := x) (m := 200) (by omega)).2; omega
        have N := Lib.hid hn
        clear hn
        have hko := rep_ok hR (fun c hc => by have := h200 c hc; omega)
        have HR := Lib.hid hR
        clear hR
        have P200 := Lib.hid (fun w => picked_is x 200 n w N hxo.1 hxo.2 (by decide) (by decide))
        obtain ⟨xs, xl, xb, ev, T, HV⟩ := take_both s m b n came hko (by omega) HR
        obtain ⟨ca, cc, hu6, _, hcm, _, HC⟩ := owns_ints ho
        rw [List.length_map] at hu6 HC
        subst hu6
        replace HC := Lib.hid HC
        go_wp2_with (first | (go_at_call 24; (with_reducible refine (P200.out _).mono ?_); rintro e w1 ⟨rfl, rfl⟩) | (go_at_call 36; (with_reducible refine (T.out _).mono ?_); rintro e w1 ⟨rfl, hb⟩; replace x0 := keeps hb x0; replace x1 := keeps hb x1; replace x2 := keeps hb x2; replace y0 := keeps hb y0; replace y1 := keeps hb y1; replace y2 := keeps hb y2; replace z0 := fun o => keepsF hb (by simp; omega) (z0 o); replace z1 := fun o => keepsF hb (by simp; omega) (z1 o); replace hB := hB.trans (hb.mono (Nat.le_trans hB.size (Nat.le_refl _))); replace ho := owns_below ho hb; replace hsz := Nat.lt_of_lt_of_le hsz hb.size; replace HC := Lib.hid fun h => HC_below (HC.out h) hb))
        have hap := owns_apart_new ho
        have hbx := hsz
        have hs9 : w1.heap.size < (w1.alloc (Obj.cells #[.bool xs, .int .i64 (xl : Int), .int .u64 (xb : Int)] 58)).heap.size := by simp
        have r0 : (w1.alloc (Obj.cells #[.bool xs, .int .i64 (xl : Int), .int .u64 (xb : Int)] 58)).cell? ⟨w1.heap.size, 0, none⟩ = some (.bool xs) := cell_at rfl 0 rfl
        have r1 : (w1.alloc (Obj.cells #[.bool xs, .int .i64 (xl : Int), .int .u64 (xb : Int)] 58)).cell? ⟨w1.heap.size, 1, none⟩ = some (.int .i64 (xl : Int)) := cell_at rfl 1 rfl
        have r2 : (w1.alloc (Obj.cells #[.bool xs, .int .i64 (xl : Int), .int .u64 (xb : Int)] 58)).cell? ⟨w1.heap.size, 2, none⟩ = some (.int .u64 (xb : Int)) := cell_at rfl 2 rfl
        have hb := below_alloc w1 (Obj.cells #[.bool xs, .int .i64 (xl : Int), .int .u64 (xb : Int)] 58)
        generalize w1.alloc (Obj.cells #[.bool xs, .int .i64 (xl : Int), .int .u64 (xb : Int)] 58) = w2 at *
        replace x0 := keeps hb x0
        replace x1 := keeps hb x1
        replace x2 := keeps hb x2
        replace y0 := keeps hb y0
        replace y1 := keeps hb y1
        replace y2 := keeps hb y2
        replace z0 := fun o => keepsF hb (by simp; omega) (z0 o)
        replace z1 := fun o => keepsF hb (by simp; omega) (z1 o)
        replace hB := hB.trans (hb.mono hB.size)
        replace ho := owns_below ho hb
        replace hsz := Nat.lt_of_lt_of_le hsz hb.size
        replace HC := Lib.hid fun h => HC_below (HC.out h) hb
        clear P200 T H5 hcell hxo N hko hb
        go_loopw [11, 36] (fun mo i wr => wr = w2 ∧ ∃ j : Nat, j ≤ came.length ∧ i = .int .i64 (j : Int) ∧ ∃ mx : Int, mo = .int .i64 mx ∧ Hid (mx = maxL (came.take j))) (fun _ i _ => came.length - (intOf i).toNat)
        case atStart => exact ⟨rfl, 0, Nat.zero_le _, rfl, -1, rfl, Lib.hid rfl⟩
        case round =>
          obtain ⟨rfl, j, hj, rfl, mx, rfl, MX⟩ := hrel
          have MB := maxL_bd (came.take j) (fun c hc => h200 c (List.mem_of_mem_take hc))
          rw [← MX.out] at MB
          obtain ⟨MB1, MB2⟩ := MB
          by_cases hjl : j < came.length
          · obtain ⟨b9, o9, hca, hb9, hc9⟩ := HC.out (by omega)
            subst hca
            have hcc := hc9 j ((came[j] : Nat) : Int) (by rw [List.getElem?_map, List.getElem?_eq_getElem hjl]; rfl)
            have hc2 := h200 came[j] (List.getElem_mem hjl)
            clear hc9
            have MN := Lib.hid (by rw [← List.take_append_getElem hjl, maxL_snoc, ← MX.out] : maxL (came.take (j + 1)) = if mx < ((came[j] : Nat) : Int) then ((came[j] : Nat) : Int) else mx)
            obtain ⟨cn, hcn⟩ : ∃ cn, cn = came[j] := ⟨_, rfl⟩
            rw [← hcn] at hcc hc2 MN
            clear hcn
            go_wp2_with (fail)
            refine ⟨⟨trivial, j + 1, by omega, rfl, _, rfl, Lib.hid ?_⟩, by simp only [intOf]; omega⟩
            rw [MN.out]
            split <;> omega
          · have hjc : j = came.length := by omega
            subst hjc
            rw [List.take_length] at MX
            have LI := Lib.hid (late_iff came n)
            rw [← MX.out] at LI
            obtain ⟨CT, hCT⟩ : ∃ CT : Bool, CT = (came.map fun c : Nat => (c : Int)).contains (n : Int) := ⟨_, rfl⟩
            have CC := Lib.hid (fun w hb => hCT ▸ contains_ints (w := w) (v := .slice ca came.length cc) (l := came.map fun c : Nat => (c : Int)) (n : Int) hb)
            have hCT2 : CT = true ↔ n ∈ came := by rw [hCT, List.contains_iff_mem, List.mem_map]; exact ⟨fun ⟨c, h1, h2⟩ => by rw [← Int.ofNat.inj h2]; exact h1, fun h => ⟨n, h, rfl⟩⟩
            clear hCT
            have hOI := owns_ints ho
            clear HC
            rcases HV.out with ⟨rfl, hl⟩ | ⟨rfl, hl, hR2⟩
            · have hE : CT = true ∨ (CT = false ∧ decide ((64 : Int) ≤ mx - (n : Int)) = true) := by
                cases CT with
                | true => exact .inl rfl
                | false => exact .inr ⟨rfl, decide_eq_true ((LI.out.1 hl).resolve_left (fun h => by have := hCT2.2 h; cases this))⟩
              clear hCT2 HV LI MX
              rcases hE with rfl | ⟨rfl, hg⟩
              all_goals
                go_wp2_with (go_at_call 40; (with_reducible refine (CC.out _ hOI).mono ?_); rintro e w9 ⟨rfl, rfl⟩)
                exact ⟨⟨k + 1, s, m, b, came, by omega, rfl, HR.out, h200, h41, by omega, x0, x1, x2, y0, y1, y2, z0, z1, hsz, ho, hB⟩, by simp only [intOf]; omega⟩
            · have hf : CT = false := by
                cases hc : CT with
                | false => rfl
                | true => exact absurd (LI.out.2 (.inl (hCT2.1 hc))) hl
              have hg : decide ((64 : Int) ≤ mx - (n : Int)) = false := decide_eq_false fun h => hl (LI.out.2 (.inr h))
              subst hf
              clear hCT2 HV LI MX hl
              go_wp2_with (go_at_call 40; (with_reducible refine (CC.out _ hOI).mono ?_); rintro e w9 ⟨rfl, rfl⟩)
              have hlow := owns_apart_low ho (Nat.lt_succ_self _)
              have hRB : w.heap.size + 1 ≤ w9.heap.size := Nat.le_of_lt hsz
              refine wp_region_held_drew (S := fun wS => Below (w.heap.size + 1) w9 wS ∧ wS.cell? ⟨w1.heap.size, 0, none⟩ = some (.bool xs) ∧ wS.cell? ⟨w1.heap.size, 1, none⟩ = some (.int .i64 (xl : Int)) ∧ wS.cell? ⟨w1.heap.size, 2, none⟩ = some (.int .u64 (xb : Int))) (by kernel_rfl) (by exact ⟨(Below.refl _ _).drew, r0, r1, r2⟩) (fun hHeld => ?_)
              (refine H_take (i := 0) rfl (by kernel_rfl) (by kernel_rfl) (by kernel_rfl) (fun _ _ _ _ h => h) hHeld (by rfl) ?_; apply Exists.intro; refine ⟨fun w9 hS9 => ?_, ?_⟩; (focus ((try dsimp only at hS9); go_split_ands; go_simp; first | done | with_reducible rfl | exact rfl)); try simp only [Act.put, List.setIfInBounds_toArray, List.set, List.getElem_toArray, List.getElem_cons_zero, List.getElem_cons_succ])
              (refine H_take (i := 1) rfl (by kernel_rfl) (by kernel_rfl) (by kernel_rfl) (fun _ _ _ _ h => h) hHeld (by rfl) ?_; apply Exists.intro; refine ⟨fun w9 hS9 => ?_, ?_⟩; (focus ((try dsimp only at hS9); go_split_ands; go_simp; first | done | with_reducible rfl | exact rfl)); try simp only [Act.put, List.setIfInBounds_toArray, List.set, List.getElem_toArray, List.getElem_cons_zero, List.getElem_cons_succ])
              (refine H_take (i := 2) rfl (by kernel_rfl) (by kernel_rfl) (by kernel_rfl) (fun _ _ _ _ h => h) hHeld (by rfl) ?_; apply Exists.intro; refine ⟨fun w9 hS9 => ?_, ?_⟩; (focus ((try dsimp only at hS9); go_split_ands; go_simp; first | done | with_reducible rfl | exact rfl)); try simp only [Act.put, List.setIfInBounds_toArray, List.set, List.getElem_toArray, List.getElem_cons_zero, List.getElem_cons_succ])
              refine H_one (i := 3) (by kernel_rfl) rfl (fun K hK => ?_)
              go_simp
              skip
              refine hK.out _ _ (by (try dsimp only); exact ⟨hHeld.1.alloc (Nat.le_trans hRB hHeld.1.size) _, cell_up hHeld.2.1, cell_up hHeld.2.2.1, cell_up hHeld.2.2.2⟩) (fun hHeld => ?_)
              clear hK K
              try simp only [Act.put, List.setIfInBounds_toArray, List.set, List.getElem_toArray, List.getElem_cons_zero, List.getElem_cons_succ]
              refine H_one (i := 4) (by kernel_rfl) rfl (fun K hK => ?_)
              rw [if_pos (by rfl)]
              refine wp_append_ints (.tmp 70) (.tmp 72) rfl (w.heap.size + 2) (.slice ca came.length cc) came.length (came.map fun c : Nat => (c : Int)) [(n : Int)] rfl (owns_below (owns_below ho (Below.refl _ _).drew) (below_alloc _ _)) _ rfl (Ints.one w9.drew n 3) (by simp; omega) (by simp; omega) ?_
              intro v3 w3 ho3 hg3
              refine hK.out _ _ (by (try dsimp only); exact ⟨below_grown hHeld.1 (owns_base (owns_below (owns_below ho (Below.refl _ _).drew) (below_alloc _ _)) (Nat.le_succ _)) hg3 (Nat.le_trans hRB hHeld.1.size), grown_cell ho hg3 hap hHeld.2.1, grown_cell ho hg3 hap hHeld.2.2.1, grown_cell ho hg3 hap hHeld.2.2.2⟩) (fun hHeld => ?_)
              clear hK K
              try simp only [Act.put, List.setIfInBounds_toArray, List.set, List.getElem_toArray, List.getElem_cons_zero, List.getElem_cons_succ]
              have hq9 : w.heap.size + 1 < (w9.alloc (Obj.cells #[.int .i64 (n : Int)] 3)).drew.heap.size := by simp; omega
              have a0 : w3.cell? ⟨w.heap.size + 1, 0, none⟩ = some (.bool s) := grown_cell ho hg3 hlow (cell_up x0)
              have a1 : w3.cell? ⟨w.heap.size + 1, 1, none⟩ = some (.int .i64 (m : Int)) := grown_cell ho hg3 hlow (cell_up x1)
              have a2 : w3.cell? ⟨w.heap.size + 1, 2, none⟩ = some (.int .u64 (b : Int)) := grown_cell ho hg3 hlow (cell_up x2)
              have az : ∀ o, w3.frozen? ⟨w.heap.size + 1, o, none⟩ = false := fun o => grown_frozen ho hg3 hlow hq9 (froz_up hsz (z1 o))
              have hHeld3 := hHeld.1
              refine H_one (i := 5) (by kernel_rfl) rfl (fun K hK => ?_)
              go_simp
              skip
              refine hK.out _ _ (by (try dsimp only); exact ⟨((hHeld.1.setCell (Nat.le_refl _) _).setCell (Nat.le_refl _) _).setCell (Nat.le_refl _) _, cell_set (Nat.ne_of_gt hbx) (cell_set (Nat.ne_of_gt hbx) (cell_set (Nat.ne_of_gt hbx) hHeld.2.1)), cell_set (Nat.ne_of_gt hbx) (cell_set (Nat.ne_of_gt hbx) (cell_set (Nat.ne_of_gt hbx) hHeld.2.2.1)), cell_set (Nat.ne_of_gt hbx) (cell_set (Nat.ne_of_gt hbx) (cell_set (Nat.ne_of_gt hbx) hHeld.2.2.2))⟩) (fun hHeld => ?_)
              clear hK K
              try simp only [Act.put, List.setIfInBounds_toArray, List.set, List.getElem_toArray, List.getElem_cons_zero, List.getElem_cons_succ]
              (refine H_take (i := 6) rfl (by kernel_rfl) (by kernel_rfl) (by kernel_rfl) (fun _ _ _ _ h => h) hHeld (by rfl) ?_; apply Exists.intro; refine ⟨fun w9 hS9 => ?_, ?_⟩; (focus ((try dsimp only at hS9); go_split_ands; go_simp; first | done | with_reducible rfl | exact rfl)); try simp only [Act.put, List.setIfInBounds_toArray, List.set, List.getElem_toArray, List.getElem_cons_zero, List.getElem_cons_succ])
              refine wpAnyH_done (by kernel_rfl) ?_ _
              clear hHeld
              obtain ⟨w4, he4, hx4, ho4, hf4, hn4, hk4⟩ := stored (w := w3) (b := w.heap.size + 1) [.bool xs, .int .i64 (xl : Int), .int .u64 (xb : Int)] (by intro i hi; match i, hi with | 0, _ => exact Option.isSome_iff_exists.2 ⟨_, a0⟩ | 1, _ => exact Option.isSome_iff_exists.2 ⟨_, a1⟩ | 2, _ => exact Option.isSome_iff_exists.2 ⟨_, a2⟩)
              have he4' : w4 = ((w3.setCell ⟨w.heap.size + 1, 0, none⟩ (.bool xs)).setCell ⟨w.heap.size + 1, 1, none⟩ (.int .i64 (xl : Int))).setCell ⟨w.heap.size + 1, 2, none⟩ (.int .u64 (xb : Int)) := he4.symm
              rw [← he4']
              have ho5 := owns_stored ho3 (owns_apart_low ho3 (Nat.lt_succ_self _)) he4
              have hB4 := hk4 w.heap.size w (Nat.le_succ _) (hB.trans (hHeld3.mono (Nat.le_succ _)))
              have yc : ∀ o u, w9.cell? ⟨w.heap.size, o, none⟩ = some u → w4.cell? ⟨w.heap.size, o, none⟩ = some u := fun o u h => ((ho4 _ _ (Nat.ne_of_lt (Nat.lt_succ_self _))).trans (bcellR hHeld3 _ _ (Nat.lt_succ_self _))).trans h
              have zc : ∀ o, w4.frozen? ⟨w.heap.size, o, none⟩ = false := fun o => ((hf4 _ _).trans (hHeld3.frozen (p := ⟨w.heap.size, o, none⟩) (Nat.lt_succ_self _))).trans (z0 o)
              have zd : ∀ o, w4.frozen? ⟨w.heap.size + 1, o, none⟩ = false := fun o => (hf4 _ _).trans (az o)
              have hs4 : w.heap.size + 1 < w4.heap.size := by rw [hn4]; exact Nat.lt_of_lt_of_le hsz hHeld3.size
              have y0 := yc _ _ y0
              have y1 := yc _ _ y1
              have y2 := yc _ _ y2
              have x0 := hx4 0 _ rfl
              have x1 := hx4 1 _ rfl
              have x2 := hx4 2 _ rfl
              have ho6 : w4.ownsRow (w.heap.size + 2) 3 1 v3 (came ++ [n]).length (cellsI ((came ++ [n]).map fun c : Nat => (c : Int))) := by
                rw [List.map_append, List.length_append]; exact ho5
              have RR := Lib.hid hR2
              clear he4 he4' hx4 ho4 hf4 hn4 hk4 yc a0 a1 a2 az hHeld3 hg3 ho3 ho5 hR2
              go_wp2_with (fail)
              exact ⟨⟨k + 1, xs, xl, xb, came ++ [n], by omega, rfl, RR.out, fun c hc => by
                rcases List.mem_append.1 hc with hc | hc
                · exact h200 c hc
                · simp at hc; omega, by simp; omega, by simp; omega, x0, x1, x2, y0, y1, y2, zc, zd, hs4, ho6, hB4⟩, by simp only [intOf]; omega⟩
    · go_wp2_with (fail)
      refine (take_seven _).mono ?_
      rintro e w1 ⟨rfl, hb1⟩
      replace x0 := keeps hb1 x0
      replace x1 := keeps hb1 x1
      replace x2 := keeps hb1 x2
      replace y0 := keeps hb1 y0
      replace y1 := keeps hb1 y1
      replace y2 := keeps hb1 y2
      replace z0 := fun o => keepsF hb1 (by simp; omega) (z0 o)
      replace hB := hB.trans (hb1.mono hB.size)
      replace ho := owns_below ho hb1
      replace hsz := Nat.lt_of_lt_of_le hsz hb1.size
      have RR := Lib.hid hR
      clear hR H5 z1
      go_wp2_with (fail)
      have hw2 : Below w1.heap.size w1 (w1.alloc (Obj.cells #[.bool true, .int .i64 7, .int .u64 1] 58)) := below_alloc _ _
      have p0 : (w1.alloc (Obj.cells #[.bool true, .int .i64 7, .int .u64 1] 58)).cell? ⟨w1.heap.size, 0, none⟩ = some (.bool true) := cell_at rfl 0 rfl
      have p1 : (w1.alloc (Obj.cells #[.bool true, .int .i64 7, .int .u64 1] 58)).cell? ⟨w1.heap.size, 1, none⟩ = some (.int .i64 7) := cell_at rfl 1 rfl
      have p2 : (w1.alloc (Obj.cells #[.bool true, .int .i64 7, .int .u64 1] 58)).cell? ⟨w1.heap.size, 2, none⟩ = some (.int .u64 1) := cell_at rfl 2 rfl
      have ps : w1.heap.size < (w1.alloc (Obj.cells #[.bool true, .int .i64 7, .int .u64 1] 58)).heap.size := by simp
      have pz : ∀ o, (w1.alloc (Obj.cells #[.bool true, .int .i64 7, .int .u64 1] 58)).frozen? ⟨w1.heap.size, o, none⟩ = false := fun o => froz_at rfl o
      generalize (w1.alloc (Obj.cells #[.bool true, .int .i64 7, .int .u64 1] 58)) = w2 at *
      replace x0 := keeps hw2 x0
      replace x1 := keeps hw2 x1
      replace x2 := keeps hw2 x2
      replace y0 := keeps hw2 y0
      replace y1 := keeps hw2 y1
      replace y2 := keeps hw2 y2
      replace z0 := fun o => keepsF hw2 (by simp; omega) (z0 o)
      replace hB := hB.trans (hw2.mono hB.size)
      replace ho := owns_below ho hw2
      have hlt1 : w.heap.size < w1.heap.size := by omega
      refine wp_region_held_drew (S := fun wS => Below w.heap.size w2 wS ∧ wS.cell? ⟨w.heap.size + 1, 0, none⟩ = some (.bool s) ∧ wS.cell? ⟨w.heap.size + 1, 1, none⟩ = some (.int .i64 (m : Int)) ∧ wS.cell? ⟨w.heap.size + 1, 2, none⟩ = some (.int .u64 (b : Int)) ∧ wS.cell? ⟨w1.heap.size, 0, none⟩ = some (.bool true) ∧ wS.cell? ⟨w1.heap.size, 1, none⟩ = some (.int .i64 7)) (by kernel_rfl) (by exact ⟨(Below.refl _ _).drew, x0, x1, x2, p0, p1⟩) (fun hHeld => ?_)
      (refine H_take (i := 0) rfl (by kernel_rfl) (by kernel_rfl) (by kernel_rfl) (fun _ _ _ _ h => h) hHeld (by rfl) ?_; apply Exists.intro; refine ⟨fun w9 hS9 => ?_, ?_⟩; (focus ((try dsimp only at hS9); go_split_ands; go_simp; first | done | with_reducible rfl | exact rfl)); try simp only [Act.put, List.setIfInBounds_toArray, List.set, List.getElem_toArray, List.getElem_cons_zero, List.getElem_cons_succ])
      (refine H_take (i := 1) rfl (by kernel_rfl) (by kernel_rfl) (by kernel_rfl) (fun _ _ _ _ h => h) hHeld (by rfl) ?_; apply Exists.intro; refine ⟨fun w9 hS9 => ?_, ?_⟩; (focus ((try dsimp only at hS9); go_split_ands; go_simp; first | done | with_reducible rfl | exact rfl)); try simp only [Act.put, List.setIfInBounds_toArray, List.set, List.getElem_toArray, List.getElem_cons_zero, List.getElem_cons_succ])
      (refine H_take (i := 2) rfl (by kernel_rfl) (by kernel_rfl) (by kernel_rfl) (fun _ _ _ _ h => h) hHeld (by rfl) ?_; apply Exists.intro; refine ⟨fun w9 hS9 => ?_, ?_⟩; (focus ((try dsimp only at hS9); go_split_ands; go_simp; first | done | with_reducible rfl | exact rfl)); try simp only [Act.put, List.setIfInBounds_toArray, List.set, List.getElem_toArray, List.getElem_cons_zero, List.getElem_cons_succ])
      (refine H_take (i := 3) rfl (by kernel_rfl) (by kernel_rfl) (by kernel_rfl) (fun _ _ _ _ h => h) hHeld (by rfl) ?_; apply Exists.intro; refine ⟨fun w9 hS9 => ?_, ?_⟩; (focus ((try dsimp only at hS9); go_split_ands; go_simp; first | done | with_reducible rfl | exact rfl)); try simp only [Act.put, List.setIfInBounds_toArray, List.set, List.getElem_toArray, List.getElem_cons_zero, List.getElem_cons_succ])
      (refine H_take (i := 4) rfl (by kernel_rfl) (by kernel_rfl) (by kernel_rfl) (fun _ _ _ _ h => h) hHeld (by rfl) ?_; apply Exists.intro; refine ⟨fun w9 hS9 => ?_, ?_⟩; (focus ((try dsimp only at hS9); go_split_ands; go_simp; first | done | with_reducible rfl | exact rfl)); try simp only [Act.put, List.setIfInBounds_toArray, List.set, List.getElem_toArray, List.getElem_cons_zero, List.getElem_cons_succ])
      (refine H_take (i := 5) rfl (by kernel_rfl) (by kernel_rfl) (by kernel_rfl) (fun _ _ _ _ h => h) hHeld (by rfl) ?_; apply Exists.intro; refine ⟨fun w9 hS9 => ?_, ?_⟩; (focus ((try dsimp only at hS9); go_split_ands; go_simp; first | done | with_reducible rfl | exact rfl)); try simp only [Act.put, List.setIfInBounds_toArray, List.set, List.getElem_toArray, List.getElem_cons_zero, List.getElem_cons_succ])
      (refine H_take (i := 6) rfl (by kernel_rfl) (by kernel_rfl) (by kernel_rfl) (fun _ _ _ _ h => h) hHeld (by rfl) ?_; apply Exists.intro; refine ⟨fun w9 hS9 => ?_, ?_⟩; (focus ((try dsimp only at hS9); go_split_ands; go_simp; first | done | with_reducible rfl | exact rfl)); try simp only [Act.put, List.setIfInBounds_toArray, List.set, List.getElem_toArray, List.getElem_cons_zero, List.getElem_cons_succ])
      (refine H_take (i := 7) rfl (by kernel_rfl) (by kernel_rfl) (by kernel_rfl) (fun _ _ _ _ h => h) hHeld (by rfl) ?_; apply Exists.intro; refine ⟨fun w9 hS9 => ?_, ?_⟩; (focus ((try dsimp only at hS9); go_split_ands; go_simp; first | done | with_reducible rfl | exact rfl)); try simp only [Act.put, List.setIfInBounds_toArray, List.set, List.getElem_toArray, List.getElem_cons_zero, List.getElem_cons_succ])
      (refine H_take (i := 8) rfl (by kernel_rfl) (by kernel_rfl) (by kernel_rfl) (fun _ _ _ _ h => h) hHeld (by rfl) ?_; apply Exists.intro; refine ⟨fun w9 hS9 => ?_, ?_⟩; (focus ((try dsimp only at hS9); go_split_ands; go_simp; first | done | with_reducible rfl | exact rfl)); try simp only [Act.put, List.setIfInBounds_toArray, List.set, List.getElem_toArray, List.getElem_cons_zero, List.getElem_cons_succ])
      (refine H_take (i := 9) rfl (by kernel_rfl) (by kernel_rfl) (by kernel_rfl) (fun _ _ _ _ h => h) hHeld (by rfl) ?_; apply Exists.intro; refine ⟨fun w9 hS9 => ?_, ?_⟩; (focus ((try dsimp only at hS9); go_split_ands; go_simp; first | done | with_reducible rfl | exact rfl)); try simp only [Act.put, List.setIfInBounds_toArray, List.set, List.getElem_toArray, List.getElem_cons_zero, List.getElem_cons_succ])
      (refine H_take (i := 10) rfl (by kernel_rfl) (by kernel_rfl) (by kernel_rfl) (fun _ _ _ _ h => h) hHeld (by rfl) ?_; apply Exists.intro; refine ⟨fun w9 hS9 => ?_, ?_⟩; (focus ((try dsimp only at hS9); go_split_ands; go_simp; first | done | with_reducible rfl | exact rfl)); try simp only [Act.put, List.setIfInBounds_toArray, List.set, List.getElem_toArray, List.getElem_cons_zero, List.getElem_cons_succ])
      (refine H_take (i := 11) rfl (by kernel_rfl) (by kernel_rfl) (by kernel_rfl) (fun _ _ _ _ h => h) hHeld (by rfl) ?_; apply Exists.intro; refine ⟨fun w9 hS9 => ?_, ?_⟩; (focus ((try dsimp only at hS9); go_split_ands; go_simp; first | done | with_reducible rfl | exact rfl)); try simp only [Act.put, List.setIfInBounds_toArray, List.set, List.getElem_toArray, List.getElem_cons_zero, List.getElem_cons_succ])
      (refine H_take (i := 12) rfl (by kernel_rfl) (by kernel_rfl) (by kernel_rfl) (fun _ _ _ _ h => h) hHeld (by rfl) ?_; apply Exists.intro; refine ⟨fun w9 hS9 => ?_, ?_⟩; (focus ((try dsimp only at hS9); go_split_ands; go_simp; first | done | with_reducible rfl | exact rfl)); try simp only [Act.put, List.setIfInBounds_toArray, List.set, List.getElem_toArray, List.getElem_cons_zero, List.getElem_cons_succ])
      refine H_one (i := 13) (by kernel_rfl) rfl (fun K hK => ?_)
      go_simp
      skip
      refine hK.out _ _ (by (try dsimp only); exact ⟨((hHeld.1.setCell (Nat.le_refl _) _).setCell (Nat.le_refl _) _).setCell (Nat.le_refl _) _, cell_set (Nat.ne_of_gt (Nat.lt_succ_self _)) (cell_set (Nat.ne_of_gt (Nat.lt_succ_self _)) (cell_set (Nat.ne_of_gt (Nat.lt_succ_self _)) hHeld.2.1)), cell_set (Nat.ne_of_gt (Nat.lt_succ_self _)) (cell_set (Nat.ne_of_gt (Nat.lt_succ_self _)) (cell_set (Nat.ne_of_gt (Nat.lt_succ_self _)) hHeld.2.2.1)), cell_set (Nat.ne_of_gt (Nat.lt_succ_self _)) (cell_set (Nat.ne_of_gt (Nat.lt_succ_self _)) (cell_set (Nat.ne_of_gt (Nat.lt_succ_self _)) hHeld.2.2.2.1)), cell_set (Nat.ne_of_gt hlt1) (cell_set (Nat.ne_of_gt hlt1) (cell_set (Nat.ne_of_gt hlt1) hHeld.2.2.2.2.1)), cell_set (Nat.ne_of_gt hlt1) (cell_set (Nat.ne_of_gt hlt1) (cell_set (Nat.ne_of_gt hlt1) hHeld.2.2.2.2.2))⟩) (fun hHeld => ?_)
      clear hK K
      try simp only [Act.put, List.setIfInBounds_toArray, List.set, List.getElem_toArray, List.getElem_cons_zero, List.getElem_cons_succ]
      (refine H_take (i := 14) rfl (by kernel_rfl) (by kernel_rfl) (by kernel_rfl) (fun _ _ _ _ h => h) hHeld (by rfl) ?_; apply Exists.intro; refine ⟨fun w9 hS9 => ?_, ?_⟩; (focus ((try dsimp only at hS9); go_split_ands; go_simp; first | done | with_reducible rfl | exact rfl)); try simp only [Act.put, List.setIfInBounds_toArray, List.set, List.getElem_toArray, List.getElem_cons_zero, List.getElem_cons_succ])
      (refine H_take (i := 15) rfl (by kernel_rfl) (by kernel_rfl) (by kernel_rfl) (fun _ _ _ _ h => h) hHeld (by rfl) ?_; apply Exists.intro; refine ⟨fun w9 hS9 => ?_, ?_⟩; (focus ((try dsimp only at hS9); go_split_ands; go_simp; first | done | with_reducible rfl | exact rfl)); try simp only [Act.put, List.setIfInBounds_toArray, List.set, List.getElem_toArray, List.getElem_cons_zero, List.getElem_cons_succ])
      refine wpAnyH_done (by kernel_rfl) ?_ _
      have hBe := hB.trans hHeld.1
      clear hHeld
      go_wp2_with (fail)
      refine bodyPost_ret (v := .tuple #[.agg #[.bool s, .int .i64 (m : Int), .int .u64 (b : Int)], u6, .bool true]) (by simp [results, Try.results34, go_sem, y0, y1, y2]) rfl ?_
      exact ⟨s, m, b, u6, came, rfl, RR.out, h200, owns_base (owns_below (owns_stored (o := 0) (ys := [.bool s, .int .i64 (m : Int), .int .u64 (b : Int)]) ho (owns_apart_low ho (show w.heap.size < w.heap.size + 2 by omega)) rfl) (Below.refl _ _).drew) (show w.heap.size ≤ w.heap.size + 2 by omega), hBe⟩
end Go.Proofs.Ytnopdnclefopbaa
