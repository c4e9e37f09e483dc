/- slices.Insert of one element at []string: what it does over worlds. Written by a program (mkins.py). -/
import Derived.Test.YtcebndkiagbddaaDoorIns
import Derived.Test.YtcebndkiagbddaaDoorTab
namespace Go.Proofs.YtcebndkiagbddaaDoor
open Go.RowKit
set_option linter.unusedVariables false
set_option linter.unusedSimpArgs false

set_option maxHeartbeats 1000000 in
set_option maxRecDepth 100000 in
theorem insS_W : InsW Tryd.prog 16 9 1 := by
  intro w s n k vb vc cs vs vcur hvb hvz hvc hvm hvs h1v hS hk hb
  obtain ⟨i0, z0, ht, hi0, hz0, hzs, hby, hzc, hzl⟩ := ap_of ((TT.find_ok tab_ok (T := 48) rfl).sl _ _ _ _ rfl).2.2.1
  have mixed : Tryd.prog.follows .mixedOrders = true := by kernel_rfl
  have hsz : szOf Tryd.prog 9 = some 1 := (TT.find_ok tab_ok (T := 9) rfl).sz
  have hvl : vs.length = 1 := by rw [hvs, List.length_take, Array.length_toList, hvz]; omega
  have hvc' : ∀ j v, vs[j]? = some v → w.cell? ((⟨vb, 0, none⟩ : Addr).add j) = some v := fun j v hj => by
    rw [Addr.add_mid, Nat.zero_add, cell_of_row w vb j vcur _ _ hvb]
    rw [hvs, List.getElem?_take] at hj
    split at hj
    · simpa using hj
    · cases hj
  have hvlt : vb < w.heap.size := (Array.getElem?_eq_some_iff.1 hvb).1
  have hvlc : vs.length = 1 * i0.size := by rw [hzs, hvl]
  rcases hS with ⟨rfl, rfl, rfl⟩ | ⟨b, c, cur, rfl, hbk, hcz, hnc, hcm, hcs, hne, h1c⟩
  · obtain rfl : k = 0 := by omega
    have hrun0 : ∀ ty, (Builtin.append_ #[48, 48] ty #[.slice none 0 0, .slice (some ⟨vb, 0, none⟩) 1 vc]).run Tryd.prog w = _ := fun ty =>
      run_append_nil (P := Tryd.prog) w 48 ty 9 i0 z0 ht hi0 hz0 ⟨vb, 0, none⟩ 1 vc vs hvlc hvc' (by decide) (by omega) (by rw [hby]; decide)
    obtain ⟨G, hG⟩ : ∃ G, G = grownCap w 1 0 9 := ⟨_, rfl⟩
    obtain ⟨row, hrow⟩ : ∃ row, row = vs.toArray ++ Builtin.zeroCells z0.cells (G - 1) := ⟨_, rfl⟩
    have hrun : ∀ ty, (Builtin.append_ #[48, 48] ty #[.slice none 0 0, .slice (some ⟨vb, 0, none⟩) 1 vc]).run Tryd.prog w = .ok (.slice (some ⟨w.heap.size, 0, none⟩) 1 G) (w.drew.alloc (.cells row 9)) := by rw [hrow, hG]; exact hrun0
    have hG1 : 1 ≤ G := by rw [hG]; exact grownCap_ge w _ _ _
    have hG2 : G ≤ maxLen := by rw [hG]; exact grownCap_le_maxLen w _ _ _ (by unfold maxLen; omega)
    have hr1 : row.size = G * 1 := by rw [hrow, Array.size_append, size_zeroCells, hzc, List.size_toArray, hvl]; omega
    have hr2 : row.toList.take ((0 + 1) * 1) = ([] : List Value).take (0 * 1) ++ vs ++ ([] : List Value).drop (0 * 1) := by
      rw [hrow, Array.toList_append, List.take_append_of_le_length (by simp [hvl]), List.take_of_length_le (by simp [hvl])]; simp
    clear hrow hG hrun0 hvs hvc' hzl
    go_enter Tryd.func16, Tryd.ntmps16
    go_wp2_with (at_builtin; refine Lib.wpList_append_run _ rfl _ _ _ _ rfl _ _ rfl rfl _ _ (hrun _) ?_)
    go_ret
    exact ins_new hr1 hr2 hG1 hG2
  · have hlt : b < w.heap.size := (Array.getElem?_eq_some_iff.1 hbk).1
    have hcl : cs.length = n * 1 := by rw [hcs, List.length_take, Array.length_toList, hcz]; exact Nat.min_eq_left (Nat.mul_le_mul_right _ hnc)
    have hcl' : cur.toList.length = c * 1 := by rw [Array.length_toList]; exact hcz
    have hcc : ∀ j v, cs[j]? = some v → w.cell? ⟨b, j, none⟩ = some v := fun j v hj => by
      rw [cell_of_row w b j cur _ _ hbk]
      rw [hcs, List.getElem?_take] at hj
      split at hj
      · simpa using hj
      · cases hj
    have hsrc : Go.Src Tryd.prog i0.size 48 (.slice (some ⟨vb, 0, none⟩) 1 vc) 1 vs w := Go.Src.ofSlice w ht ⟨vb, 0, none⟩ 1 vc vs hvlc hvc' h1v
    by_cases hkn : k = n
    · subst hkn
      have hw : cs.take (k * 1) ++ vs ++ cs.drop (k * 1) = cs ++ vs := by
        rw [List.take_of_length_le (by omega), List.drop_of_length_le (by omega), List.append_nil]
      by_cases hroom : k + 1 ≤ c
      · have hrun : ∀ ty, (Builtin.append_ #[48, 48] ty #[.slice (some ⟨b, 0, none⟩) k c, .slice (some ⟨vb, 0, none⟩) 1 vc]).run Tryd.prog w = .ok (.slice (some ⟨b, 0, none⟩) (k + 1) c) (w.setCells b (k * 1) vs) := fun ty => by
          have := run_append_room_src (P := Tryd.prog) w 48 48 ty 9 i0 ht hi0 b 0 k c _ 1 vs hsrc hroom (fun j hj => by rw [cell_of_row w b _ cur _ _ hbk, Array.getElem?_eq_getElem (by rw [hcz, hzs]; omega)]; rfl) (fun j hj => by unfold World.frozen?; simp only [hbk]; simp)
          rwa [Nat.zero_add, hzs] at this
        have hlist : (putL (putL cur.toList 0 []) (k * 1) vs).take ((k + 1) * 1) = cs.take (k * 1) ++ vs ++ cs.drop (k * 1) := by
          rw [hw, putL_nil, show (k + 1) * 1 = k * 1 + vs.length from by rw [hvl]; omega, putL_app vs (k * 1) cur.toList (by rw [hcl', hvl]; omega), hcs]
        clear hsrc hvs hvc' hzl hcc hcs
        go_enter Tryd.func16, Tryd.ntmps16
        go_wp2_with (at_builtin; refine Lib.wpList_append_run _ rfl _ _ _ _ rfl _ _ rfl rfl _ _ (hrun _) ?_)
        go_ret
        exact ins_set (w0 := w) (w1 := w) (o1 := 0) (xs := []) hbk ⟨rfl, rfl, rfl⟩ (Nat.le_refl _) (fun _ _ _ => rfl) rfl (.inl rfl) hcz (by first | exact hlist | (simp only [Nat.mul_one] at hlist ⊢; exact hlist)) hroom hcm (.inr ⟨c, rfl⟩)
      · have hold : (Builtin.firstCells i0.size k (.slice (some ⟨b, 0, none⟩) k c)).run Tryd.prog w.drew = .ok cs.toArray w.drew := run_firstCells_some w.drew i0.size k ⟨b, 0, none⟩ k c cs (by rw [hzs]; exact hcl) (fun j v hj => by rw [Addr.add_mid, Nat.zero_add]; exact hcc j v hj)
        have hrun0 : ∀ ty, (Builtin.append_ #[48, 48] ty #[.slice (some ⟨b, 0, none⟩) k c, .slice (some ⟨vb, 0, none⟩) 1 vc]).run Tryd.prog w = _ := fun ty =>
          run_append_grow_src (P := Tryd.prog) w 48 48 ty 9 i0 z0 ht hi0 hz0 (some ⟨b, 0, none⟩) k c cs hold _ 1 vs hsrc (by omega) (by omega) (growslice_fits (by omega) (by rw [hby]; omega))
        obtain ⟨G, hG⟩ : ∃ G, G = grownCap w (k + 1) c 9 := ⟨_, rfl⟩
        obtain ⟨row, hrow⟩ : ∃ row, row = (cs ++ vs).toArray ++ Builtin.zeroCells z0.cells (G - (k + 1)) := ⟨_, rfl⟩
        have hrun : ∀ ty, (Builtin.append_ #[48, 48] ty #[.slice (some ⟨b, 0, none⟩) k c, .slice (some ⟨vb, 0, none⟩) 1 vc]).run Tryd.prog w = .ok (.slice (some ⟨w.heap.size, 0, none⟩) (k + 1) G) (w.drew.alloc (.cells row 9)) := by rw [hrow, hG]; exact hrun0
        have hG1 : k + 1 ≤ G := by rw [hG]; exact grownCap_ge w _ _ _
        have hG2 : G ≤ maxLen := by rw [hG]; exact grownCap_le_maxLen w _ _ _ (by unfold maxLen; omega)
        have hr1 : row.size = G * 1 := by rw [hrow, Array.size_append, size_zeroCells, hzc, List.size_toArray, List.length_append, hvl, hcl]; omega
        have hr2 : row.toList.take ((k + 1) * 1) = cs.take (k * 1) ++ vs ++ cs.drop (k * 1) := by
          rw [hw, hrow, Array.toList_append, List.take_append_of_le_length (by simp only [List.length_append, hvl, hcl]; omega), List.take_of_length_le (by simp only [List.length_append, hvl, hcl]; omega)]
        clear hrow hG hrun0 hsrc hvs hvc' hzl hcc hcs hold
        go_enter Tryd.func16, Tryd.ntmps16
        go_wp2_with (at_builtin; refine Lib.wpList_append_run _ rfl _ _ _ _ rfl _ _ rfl rfl _ _ (hrun _) ?_)
        go_ret
        exact ins_new hr1 hr2 hG1 hG2
    · have hk' : k < n := by omega
      have hz2 : ¬ ((k : Int) = (n : Int)) := by omega
      have hdl : (cs.drop (k * 1)).length = (n - k) * 1 := by rw [List.length_drop, hcl]; omega
      have hw1 : IntKind.i64.wrap ((k : Int) + 1) = (k : Int) + 1 := by rw [IntKind.wrap_i64]; omega
      have hc63 : c ≤ 9223372036854775807 := hcm
      have hb1 : (0 : Int) ≤ (k : Int) + 1 := by omega
      have htn : ((k : Int) + 1).toNat = k + 1 := by omega
      have hb3 : (k : Int) ≤ (n : Int) + 1 := by omega
      have hb4 : ¬ (c = k) := by omega
      by_cases hroom : n + 1 ≤ c
      · have hb2 : ¬ (c = k + 1) := by omega
        have hsp : ∀ j, j < (n + 1) * 1 → (w.cell? ⟨b, j, none⟩).isSome = true := fun j hj => by
          rw [cell_of_row w b j cur _ _ hbk, Array.getElem?_eq_getElem (by rw [hcz]; omega)]; rfl
        have hfz : ∀ j, w.frozen? ⟨b, j, none⟩ = false := fun j => by unfold World.frozen?; simp only [hbk]; simp
        have hov : ∀ lb cb, (callFunc 35 #[.slice (some ⟨vb, 0, none⟩) 1 vc, .slice (some ⟨b, k + 1, none⟩) lb cb]).run Tryd.prog w = .ok (.value (.bool false)) w := fun lb cb => by
          rw [run_callFunc_extern Tryd.func35 (by kernel_rfl) (by kernel_rfl) (by kernel_rfl) (e := Extern.SlicesOverlaps.overlaps #[48, 48] #[4]) (by kernel_rfl),
            Lib.run_overlaps_apart w 48 4 9 ht 1 (fun w => run_sizeOf hsz w) ⟨vb, 0, none⟩ ⟨b, k + 1, none⟩ 1 vc lb cb (Ne.symm hne) 9 9 vcur.size cur.size (by unfold World.shape?; simp only [hvb]) (by unfold World.shape?; simp only [hbk]) (by rw [hcz]; omega) (by unfold World.frozen?; simp only [hvb]; simp) (by unfold World.frozen?; simp only [hvb]; simp)]
          rfl
        have hm1 : Nat.min (n + 1 - k) (n - k) = n - k := Nat.min_eq_right (by omega)
        have hm2 : Nat.min 1 (n + 1 - k) = 1 := Nat.min_eq_left (by omega)
        have hcp1 : ∀ ty dc sc, (Builtin.copy_ #[48, 48] ty #[.slice (some ⟨b, k + 1, none⟩) (n - k) dc, .slice (some ⟨b, k, none⟩) (n + 1 - k) sc]).run Tryd.prog w.drew = .ok (goInt (n - k : Nat)) (w.drew.setCells b (k + 1) (cs.drop (k))) := fun ty dc sc => by
          have := run_copy_cellsN (P := Tryd.prog) w.drew 48 48 ty 9 1 b (k + 1) (n - k) dc ⟨b, k, none⟩ (n + 1 - k) sc (cs.drop (k)) ht hsz (by rw [List.length_drop, hcl, hm1]; omega)
            (fun j v hj => by rw [Addr.add_mid]; exact hcc _ v (by rwa [List.getElem?_drop] at hj))
            (fun j hj => hsp _ (by rw [List.length_drop, hcl] at hj; omega)) (fun j hj => hfz _) (fun v hv => h1c v (List.mem_of_mem_drop hv))
          rwa [hm1] at this
        obtain ⟨W1, hW1⟩ : ∃ W1, W1 = w.drew.setCells b (k + 1) (cs.drop (k)) := ⟨_, rfl⟩
        have hsp1 : ∀ j, j < (n + 1) * 1 → (W1.cell? ⟨b, j, none⟩).isSome = true := fun j hj => by
          obtain ⟨cur', c1, c2, _⟩ := heap_setCells_same b (cs.drop (k)) (k + 1) w.drew cur _ _ hbk
          rw [hW1, cell_of_row _ b j cur' _ _ c1, Array.getElem?_eq_getElem (by rw [c2, hcz]; omega)]; rfl
        have hcp2 : ∀ (W : World), (∀ x, W.cell? x = W1.cell? x) → (∀ x, W.frozen? x = W1.frozen? x) → ∀ ty dc, (Builtin.copy_ #[48, 48] ty #[.slice (some ⟨b, k, none⟩) (n + 1 - k) dc, .slice (some ⟨vb, 0, none⟩) 1 vc]).run Tryd.prog W = .ok (goInt 1) (W.setCells b (k) vs) := fun W hWc hWf ty dc => by
          have := run_copy_cellsN (P := Tryd.prog) W 48 48 ty 9 1 b (k) (n + 1 - k) dc ⟨vb, 0, none⟩ 1 vc vs ht hsz (by rw [hvl, hm2])
            (fun j v hj => by
              rw [Addr.add_mid, hWc, hW1, World.cell?_setCells_out b _ _ _ _ (fun h _ => absurd h (Ne.symm hne))]
              have := hvc' j v hj
              rwa [Addr.add_mid] at this)
            (fun j hj => by rw [hWc]; exact hsp1 _ (by omega)) (fun j hj => by rw [hWf, hW1, World.frozen?_setCells]; exact hfz _) h1v
          rwa [hm2] at this
        have hlist : (putL (putL cur.toList (k + 1) (cs.drop (k))) (k) vs).take ((n + 1) * 1) = cs.take (k * 1) ++ vs ++ cs.drop (k * 1) := by
          have hdl2 : (cs.drop (k)).length = n * 1 - (k) := by rw [List.length_drop, hcl]
          have := putL_two' cur.toList vs (cs.drop (k)) (k) (by rw [hcl', hvl, hdl2]; omega)
          have e1 : k * 1 = k := by omega
          have e2 : k + 1 = k + 1 := by omega
          have e3 : cur.toList.take (k) = cs.take (k) := by rw [hcs, List.take_take, Nat.min_eq_left (by omega)]
          rw [hvl, hdl2, show k + 1 + (n * 1 - (k)) = (n + 1) * 1 from by omega, e3] at this
          rw [e1, e2]
          exact this
        rw [← hW1] at hcp1
        have hWo := Lib.hid hW1
        clear hsrc hvs hvc' hzl hcc hcs hW1 hsp hfz hsp1
        go_enter Tryd.func16, Tryd.ntmps16
        go_wp2_with (simp only [hov])
        go_region_law_o (refine step_copy_runI rfl _ _ 48 48 rfl _ _ (by simp [Act.eval, Act.put]) (by simp [Act.eval, Act.put]) (hcp1 _ _ _) ?_)
        go_wp2_with (at_builtin; refine wpList_copy_runI _ rfl _ _ 48 48 rfl _ _ rfl rfl (hcp2 _ (fun _ => rfl) (fun _ => rfl) _ _) ?_)
        go_ret
        exact ins_set (w0 := w.drew) (w1 := W1) hbk ⟨rfl, rfl, rfl⟩ (Nat.le_refl _) (fun _ _ _ => rfl) hWo.out (by first | exact .inl rfl | exact .inr rfl) hcz (by first | exact hlist | (simp only [Nat.mul_one, List.append_assoc] at hlist ⊢; exact hlist)) hroom hcm (.inr ⟨c, rfl⟩)
      · have hkk : (n : Int) + 1 - (k : Int) = ((n + 1 - k : Nat) : Int) := by omega
        have hik : k + (n + 1 - k) = n + 1 := by omega
        have hz3 : (c : Int) < (n : Int) + 1 := by omega
        have hold : (Builtin.firstCells i0.size k (.slice (some ⟨b, 0, none⟩) k c)).run Tryd.prog w.drew = .ok (cs.take (k)).toArray w.drew := run_firstCells_some w.drew i0.size k ⟨b, 0, none⟩ k c (cs.take (k)) (by rw [hzs, List.length_take, hcl]; omega) (fun j v hj => by
          rw [Addr.add_mid, Nat.zero_add]
          rw [List.getElem?_take] at hj
          split at hj
          · exact hcc j v hj
          · cases hj)
        have htI : Tryd.prog.underlying 3 = some (.int .i64) := Tryd.underlying3
        obtain ⟨G, hG⟩ : ∃ G, G = grownCap w (n + 1) c 9 := ⟨_, rfl⟩
        obtain ⟨row, hrow⟩ : ∃ row : Array Value, row = (cs.take (k)).toArray ++ Builtin.zeroCells z0.cells (n + 1 - k) ++ Builtin.zeroCells z0.cells (G - (n + 1)) := ⟨_, rfl⟩
        have hrz : ∀ ty, (Builtin.append_ #[48, 3] ty #[.slice (some ⟨b, 0, none⟩) k c, .int .i64 ((n : Int) + 1 - (k : Int))]).run Tryd.prog w = .ok (.slice (some ⟨w.heap.size, 0, none⟩) (n + 1) G) (w.drew.alloc (.cells row 9)) := fun ty => by
          have h := Lib.run_append_grow_zeros (P := Tryd.prog) w 48 3 ty 9 i0 z0 .i64 .i64 ht htI hi0 hz0 (some ⟨b, 0, none⟩) k c _ hold (n + 1 - k) (by omega) (by omega) (by omega) (by omega) (by rw [hby]; omega) (by rw [hby, hik]; exact growslice_fits (by omega) (by omega))
          rw [hik, ← hG, ← hrow] at h
          rw [hkk]
          exact h
        have hGn : n + 1 ≤ G := by rw [hG]; exact grownCap_ge w _ _ _
        have hG2 : G ≤ maxLen := by rw [hG]; exact grownCap_le_maxLen w _ _ _ (by unfold maxLen; omega)
        have hG63 : G ≤ 9223372036854775807 := hG2
        have hr1 : row.size = G * 1 := by rw [hrow, Array.size_append, Array.size_append, size_zeroCells, size_zeroCells, hzc, List.size_toArray, List.length_take, hcl]; omega
        have hrt : row.toList.take (k) = cs.take (k) := by
          rw [hrow, Array.toList_append, Array.toList_append, List.append_assoc, List.take_append_of_le_length (by rw [List.length_take, hcl]; omega)]
          exact List.take_of_length_le (by rw [List.length_take, hcl]; omega)
        obtain ⟨W1, hW1⟩ : ∃ W1, W1 = w.drew.alloc (.cells row 9) := ⟨_, rfl⟩
        rw [← hW1] at hrz
        have hN : ∀ j, j < (n + 1) * 1 → (W1.cell? ⟨w.heap.size, j, none⟩).isSome = true := fun j hj => by
          have hjr : j < row.size := by rw [hr1]; omega
          rw [hW1, World.cell?_alloc_at (w := w.drew) row _ w.heap.size j rfl, Array.getElem?_eq_getElem hjr]; rfl
        have hNf : ∀ j, W1.frozen? ⟨w.heap.size, j, none⟩ = false := fun j => by rw [hW1]; exact World.frozen?_alloc_at (w := w.drew) row _ w.heap.size j rfl
        have hOb : ∀ j v, w.cell? ⟨b, j, none⟩ = some v → W1.cell? ⟨b, j, none⟩ = some v := fun j v h => by rw [hW1, World.cell?_alloc_past (w := w.drew) _ b j hlt]; exact h
        have hOv : ∀ j v, w.cell? ⟨vb, j, none⟩ = some v → W1.cell? ⟨vb, j, none⟩ = some v := fun j v h => by rw [hW1, World.cell?_alloc_past (w := w.drew) _ vb j hvlt]; exact h
        have hm1 : Nat.min (n - k) (n + 1 - (k + 1)) = n - k := Nat.min_eq_left (by omega)
        have hm2 : Nat.min 1 (n + 1 - k) = 1 := Nat.min_eq_left (by omega)
        have hbN : b ≠ w.heap.size := by omega
        have hcpA : ∀ (W : World), (∀ x, W.cell? x = W1.cell? x) → (∀ x, W.frozen? x = W1.frozen? x) → ∀ ty dc, (Builtin.copy_ #[48, 48] ty #[.slice (some ⟨w.heap.size, k, none⟩) (n + 1 - k) dc, .slice (some ⟨vb, 0, none⟩) 1 vc]).run Tryd.prog W = .ok (goInt 1) (W.setCells w.heap.size (k) vs) := fun W hWc hWf ty dc => by
          have := run_copy_cellsN (P := Tryd.prog) W 48 48 ty 9 1 w.heap.size (k) (n + 1 - k) dc ⟨vb, 0, none⟩ 1 vc vs ht hsz (by rw [hvl, hm2])
            (fun j v hj => by rw [Addr.add_mid, hWc]; exact hOv _ v (by have := hvc' j v hj; rwa [Addr.add_mid] at this))
            (fun j hj => by rw [hWc]; exact hN _ (by omega)) (fun j hj => by rw [hWf]; exact hNf _) h1v
          rwa [hm2] at this
        have hcpB : ∀ (W : World), (∀ x, W.cell? x = (W1.setCells w.heap.size (k) vs).cell? x) → (∀ x, W.frozen? x = (W1.setCells w.heap.size (k) vs).frozen? x) → ∀ ty dc sc, (Builtin.copy_ #[48, 48] ty #[.slice (some ⟨w.heap.size, k + 1, none⟩) (n - k) dc, .slice (some ⟨b, k, none⟩) (n - k) sc]).run Tryd.prog W = .ok (goInt (n - k : Nat)) (W.setCells w.heap.size (k + 1) (cs.drop (k))) := fun W hWc hWf ty dc sc => by
          have := run_copy_cellsN (P := Tryd.prog) W 48 48 ty 9 1 w.heap.size (k + 1) (n - k) dc ⟨b, k, none⟩ (n - k) sc (cs.drop (k)) ht hsz (by rw [List.length_drop, hcl, show Nat.min (n - k) (n - k) = n - k from Nat.min_self _]; omega)
            (fun j v hj => by
              rw [Addr.add_mid, hWc, World.cell?_setCells_out _ _ _ _ _ (fun h _ => absurd h hbN)]
              exact hOb _ v (hcc _ v (by rwa [List.getElem?_drop] at hj)))
            (fun j hj => by rw [hWc]; exact isSome_setCells _ _ _ _ (fun t ht => hN _ (by rw [hvl] at ht; omega)) _ (hN _ (by rw [List.length_drop, hcl] at hj; omega)))
            (fun j hj => by rw [hWf, World.frozen?_setCells]; exact hNf _) (fun v hv => h1c v (List.mem_of_mem_drop hv))
          rwa [show Nat.min (n - k) (n - k) = n - k from Nat.min_self _] at this
        have hlist : (putL (putL row.toList (k) vs) (k + 1) (cs.drop (k))).take ((n + 1) * 1) = cs.take (k * 1) ++ vs ++ cs.drop (k * 1) := by
          have hdl2 : (cs.drop (k)).length = n * 1 - (k) := by rw [List.length_drop, hcl]
          have hrl : row.toList.length = G * 1 := by rw [Array.length_toList]; exact hr1
          have := putL_two row.toList vs (cs.drop (k)) (k) (by rw [hrl, hvl, hdl2]; omega)
          have e1 : k * 1 = k := by omega
          have e2 : k + 1 = k + 1 := by omega
          rw [hvl, hdl2, show k + 1 + (n * 1 - (k)) = (n + 1) * 1 from by omega, hrt] at this
          rw [e1, e2]
          exact this
        have hGi : ¬ (G = k) := by omega
        have hGim : ¬ (G = k + 1) := by omega
        have hb5 : (k : Int) ≤ (n : Int) := by omega
        have hn1 : n + 1 - (k + 1) = n - k := by omega
        clear hsrc hvs hvc' hzl hcc hcs hrow hG hold hrt hN hNf hOb hOv hkk hik
        subst hW1
        have hE1 : ∀ x, ((w.alloc (.cells row 9)).drew).cell? x = (w.drew.alloc (.cells row 9)).cell? x := fun x => rfl
        have hE2 : ∀ x, ((w.alloc (.cells row 9)).drew).frozen? x = (w.drew.alloc (.cells row 9)).frozen? x := fun x => rfl
        have hF1 : ∀ x, (((w.alloc (.cells row 9)).drew.setCells w.heap.size (k) vs).drew).cell? x = ((w.drew.alloc (.cells row 9)).setCells w.heap.size (k) vs).cell? x := fun x => rfl
        have hF2 : ∀ x, (((w.alloc (.cells row 9)).drew.setCells w.heap.size (k) vs).drew).frozen? x = ((w.drew.alloc (.cells row 9)).setCells w.heap.size (k) vs).frozen? x := fun x => rfl
        go_enter Tryd.func16, Tryd.ntmps16
        go_wp2_with (first
          | (at_builtin; refine Lib.wpList_append_run _ rfl _ _ _ _ rfl _ _ rfl rfl _ _ (hrz _) ?_)
          | (at_builtin; refine wpList_copy_runI _ rfl _ _ 48 48 rfl _ _ rfl rfl (hcpA _ hE1 hE2 _ _) ?_))
        go_region_law_o (refine step_copy_runI rfl _ _ 48 48 rfl (.slice (some ⟨w.heap.size, k + 1, none⟩) (n - k) (G - (k + 1))) (.slice (some ⟨b, k, none⟩) (n - k) (c - k)) (by simp [Act.eval, Act.put]) (by simp [Act.eval, Act.put]) (hcpB _ hF1 hF2 3 (G - (k + 1)) (c - k)) ?_)
        go_wp2
        go_ret
        exact ins_set (w0 := w.drew.alloc (.cells row 9)) (w1 := (w.drew.alloc (.cells row 9)).setCells w.heap.size (k) vs) (heap_alloc_new w.drew _) ⟨rfl, rfl, rfl⟩ (by simp) (fun x _ hx => Below.heap_alloc _ _ _ hx) rfl (by first | exact .inr rfl | exact .inl rfl) hr1 (by first | exact hlist | (simp only [Nat.mul_one, List.append_assoc] at hlist ⊢; exact hlist)) hGn hG2 (.inl (Nat.le_refl _))
end Go.Proofs.YtcebndkiagbddaaDoor
