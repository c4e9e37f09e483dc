/- packet.Encode: its contract. -/
import Derived.Test.YtnopdnclefopbaaPk
import Derived.Test.YtnopdnclefopbaaSha
import Derived.Test.YtnopdnclefopbaaClone
namespace Go.Proofs.Ytnopdnclefopbaa
open Go.RowKit
set_option linter.unusedVariables false

theorem pkCheck_ok (s d : Int) (a : Option Addr) (n c : Nat) (w : World) (hn : n ≤ 200) :
    Calls Try.prog 53 #[.agg #[.int .u32 s, .int .u32 d, .slice a n c]] w fun e w' => e = .returned (.int .i64 0) ∧ Below w.heap.size w w' := by
  go_enter Try.func53, Try.ntmps53
  go_wp2
  go_ret
  exact ⟨rfl, below_alloc _ _⟩
def pk12_obj (n : Nat) : Obj := .cells #[Value.int IntKind.u8 69, Value.int IntKind.u8 0, Value.int IntKind.u8 ((20 + (n : Int)) / 256), Value.int IntKind.u8 (20 + (n : Int)), Value.int IntKind.u8 0, Value.int IntKind.u8 0, Value.int IntKind.u8 0, Value.int IntKind.u8 0, Value.int IntKind.u8 64, Value.int IntKind.u8 253, Value.int IntKind.u8 0, Value.int IntKind.u8 0] 5
theorem pk12_made {B : Nat} (n : Nat) (w : World) (h : B ≤ w.heap.size) (hn : n ≤ 200 := by omega) : (w.alloc (pk12_obj n)).ownsRow B 5 1 (.slice (some ⟨w.heap.size, 0, none⟩) 12 12) 12 (cells8 (pk12 (20 + n))) := by
  refine owns_lit (pk12 (20 + n)) _ h (by rw [pk12_length]; omega) ?_
  simp only [cells8, pk12, List.map_cons, List.map_nil]
  rw [← c8_int ((20 + (n : Int)) / 256) ((20 + n) / 2 ^ 8) (by omega), ← c8_int (20 + (n : Int)) (20 + n) (by omega)]
  rfl
set_option maxHeartbeats 800000 in
theorem encode_ok (src dst : Nat) (v : Value) (l : List UInt8) (w : World) (hs : src < 4294967296) (hd : dst < 4294967296) (hb : Bytes w v l) (hl : l.length ≤ 200) :
    Calls Try.prog 31 #[.agg #[.int .u32 (src : Int), .int .u32 (dst : Int), v]] w (OkBytes w (pkEnc src dst l)) := by
  obtain ⟨a, c, hv, h2, h3, h4, h5⟩ := id hb
  subst hv
  have HB := Lib.hid hb
  clear h4 h5 hb
  go_enter Try.func31, Try.ntmps31
  go_wp2_with (fail)
  have hw : Below w.heap.size w (w.alloc (Obj.cells #[.int .u32 (src : Int), .int .u32 (dst : Int), .slice a l.length c] 48)) := ((Below.refl w.heap.size w).alloc (by first | exact Nat.le_refl _ | (simp; done) | (simp; omega)) _)
  have hc0_0 : (w.alloc (Obj.cells #[.int .u32 (src : Int), .int .u32 (dst : Int), .slice a l.length c] 48)).cell? ⟨w.heap.size, 0, none⟩ = some (.int .u32 (src : Int)) := cell_at (by first | rfl | simp) 0 rfl
  have hc0_1 : (w.alloc (Obj.cells #[.int .u32 (src : Int), .int .u32 (dst : Int), .slice a l.length c] 48)).cell? ⟨w.heap.size, 1, none⟩ = some (.int .u32 (dst : Int)) := cell_at (by first | rfl | simp) 1 rfl
  have hc0_2 : (w.alloc (Obj.cells #[.int .u32 (src : Int), .int .u32 (dst : Int), .slice a l.length c] 48)).cell? ⟨w.heap.size, 2, none⟩ = some (.slice a l.length c) := cell_at (by first | rfl | simp) 2 rfl
  have hs0 : w.heap.size < (w.alloc (Obj.cells #[.int .u32 (src : Int), .int .u32 (dst : Int), .slice a l.length c] 48)).heap.size := by simp <;> omega
  have hz0 : ∀ o, (w.alloc (Obj.cells #[.int .u32 (src : Int), .int .u32 (dst : Int), .slice a l.length c] 48)).frozen? ⟨w.heap.size, o, none⟩ = false := fun o => froz_at (by first | rfl | simp) o
  generalize (w.alloc (Obj.cells #[.int .u32 (src : Int), .int .u32 (dst : Int), .slice a l.length c] 48)) = w0 at *
  have hB : Below w0.heap.size w0 w0 := Below.refl _ _
  go_wp2_with ((go_at_call 53; (with_reducible refine (pkCheck_ok _ _ _ _ _ _ hl).mono ?_); rintro e w1 ⟨rfl, hb⟩; have hB := below_step hB hb; have hc := (bcell hB).1))
  have hos := pk12_made l.length w1 (by have := hB.size; omega : w.heap.size + 1 ≤ w1.heap.size)
  have hB2 := hB.trans ((below_alloc w1 (pk12_obj l.length)).mono hB.size)
  unfold pk12_obj at hos hB2
  generalize (w1.alloc _) = w2 at *
  have c0 := keeps hB2 hc0_0
  have c1 := keeps hB2 hc0_1
  have c2 := keeps hB2 hc0_2
  have hs2 := Nat.lt_of_lt_of_le hs0 hB2.size
  have hRB : w.heap.size + 1 ≤ w2.heap.size := by first | omega | (simp; omega)
  refine wp_region_held_drew (S := fun wS => Below (w.heap.size + 1) w2 wS) (by kernel_rfl) (by exact (Below.refl _ _).drew) (fun hHeld => ?_)
  (refine H_take (i := 0) rfl (by kernel_rfl) (by kernel_rfl) (by kernel_rfl) (fun _ _ _ _ h => h) hHeld (by rfl) ?_; apply Exists.intro; refine ⟨fun w9 hS9 => ?_, ?_⟩; (focus (have hcS := bcellR hS9; go_simp; first | done | with_reducible rfl | exact rfl)); try simp only [Act.put, List.setIfInBounds_toArray, List.set, List.getElem_toArray, List.getElem_cons_zero, List.getElem_cons_succ])
  (refine H_take (i := 1) rfl (by kernel_rfl) (by kernel_rfl) (by kernel_rfl) (fun _ _ _ _ h => h) hHeld (by rfl) ?_; apply Exists.intro; refine ⟨fun w9 hS9 => ?_, ?_⟩; (focus (have hcS := bcellR hS9; go_simp; first | done | with_reducible rfl | exact rfl)); try simp only [Act.put, List.setIfInBounds_toArray, List.set, List.getElem_toArray, List.getElem_cons_zero, List.getElem_cons_succ])
  (refine H_take (i := 2) rfl (by kernel_rfl) (by kernel_rfl) (by kernel_rfl) (fun _ _ _ _ h => h) hHeld (by rfl) ?_; apply Exists.intro; refine ⟨fun w9 hS9 => ?_, ?_⟩; (focus (have hcS := bcellR hS9; go_simp; first | done | with_reducible rfl | exact rfl)); try simp only [Act.put, List.setIfInBounds_toArray, List.set, List.getElem_toArray, List.getElem_cons_zero, List.getElem_cons_succ])
  (refine H_take (i := 5) rfl (by kernel_rfl) (by kernel_rfl) (by kernel_rfl) (fun _ _ _ _ h => h) hHeld (by rfl) ?_; apply Exists.intro; refine ⟨fun w9 hS9 => ?_, ?_⟩; (focus (have hcS := bcellR hS9; go_simp; first | done | with_reducible rfl | exact rfl)); try simp only [Act.put, List.setIfInBounds_toArray, List.set, List.getElem_toArray, List.getElem_cons_zero, List.getElem_cons_succ])
  (refine H_take (i := 6) rfl (by kernel_rfl) (by kernel_rfl) (by kernel_rfl) (fun _ _ _ _ h => h) hHeld (by rfl) ?_; apply Exists.intro; refine ⟨fun w9 hS9 => ?_, ?_⟩; (focus (have hcS := bcellR hS9; go_simp; first | done | with_reducible rfl | exact rfl)); try simp only [Act.put, List.setIfInBounds_toArray, List.set, List.getElem_toArray, List.getElem_cons_zero, List.getElem_cons_succ])
  refine H_one (i := 3) (by kernel_rfl) rfl (fun K hK => ?_)
  go_simp
  go_at_call 54; (with_reducible refine (four_calls _ _ hs).mono ?_); rintro e w3 ⟨v3, rfl, ho3, hb3⟩
  refine hK.out _ _ (by (try dsimp only); exact undr_step hRB hHeld hb3) (fun hHeld => ?_)
  clear hK K
  try simp only [Act.put, List.setIfInBounds_toArray, List.set, List.getElem_toArray, List.getElem_cons_zero, List.getElem_cons_succ]
  have hB3 := below_undrew hb3
  have hos3 := owns_below hos hB3
  have hR3 := Nat.le_trans hRB hB3.size
  refine H_one (i := 4) (by kernel_rfl) rfl (fun K hK => ?_)
  rw [if_pos (by rfl)]
  refine wp_append_bytes (.tmp 23) (.tmp 26) rfl (w.heap.size + 1) _ 12 (pk12 (20 + l.length)) (be4 src) rfl hos3 v3 rfl (owns_bytes ho3) (by rw [be4_length]; omega) hR3 ?_
  intro v4 w4 ho4 hg4
  refine hK.out _ _ (by (try dsimp only); exact below_grown hHeld hos3 hg4 hR3) (fun hHeld => ?_)
  clear hK K
  try simp only [Act.put, List.setIfInBounds_toArray, List.set, List.getElem_toArray, List.getElem_cons_zero, List.getElem_cons_succ]
  have hR4 := Nat.le_trans hRB hHeld.size
  refine H_one (i := 7) (by kernel_rfl) rfl (fun K hK => ?_)
  go_simp
  go_at_call 54; (with_reducible refine (four_calls _ _ hd).mono ?_); rintro e w5 ⟨v5, rfl, ho5, hb5⟩
  refine hK.out _ _ (by (try dsimp only); exact undr_step hRB hHeld hb5) (fun hHeld => ?_)
  clear hK K
  try simp only [Act.put, List.setIfInBounds_toArray, List.set, List.getElem_toArray, List.getElem_cons_zero, List.getElem_cons_succ]
  have hos5 := owns_below ho4 hb5
  have hR5 := Nat.le_trans hR4 hb5.size
  refine H_one (i := 8) (by kernel_rfl) rfl (fun K hK => ?_)
  rw [if_pos (by rfl)]
  refine wp_append_bytes (.tmp 27) (.tmp 30) rfl (w.heap.size + 1) _ (12 + (be4 src).length) (pk12 (20 + l.length) ++ be4 src) (be4 dst) rfl hos5 v5 rfl (owns_bytes ho5) (by rw [be4_length, be4_length]; omega) hR5 ?_
  intro v6 w6 ho6 hg6
  refine hK.out _ _ (by (try dsimp only); exact below_grown hHeld hos5 hg6 hR5) (fun hHeld => ?_)
  clear hK K
  try simp only [Act.put, List.setIfInBounds_toArray, List.set, List.getElem_toArray, List.getElem_cons_zero, List.getElem_cons_succ]
  (refine H_take (i := 9) rfl (by kernel_rfl) (by kernel_rfl) (by kernel_rfl) (fun _ _ _ _ h => h) hHeld (by rfl) ?_; apply Exists.intro; refine ⟨fun w9 hS9 => ?_, ?_⟩; (focus (have hcS := bcellR hS9; go_simp; first | done | with_reducible rfl | exact rfl)); try simp only [Act.put, List.setIfInBounds_toArray, List.set, List.getElem_toArray, List.getElem_cons_zero, List.getElem_cons_succ])
  refine wpAnyH_done (by kernel_rfl) ?_ _
  have hR6 := Nat.le_trans hRB hHeld.size
  have d0 := (bcellR hHeld _ _ (Nat.lt_succ_self _)).trans c0
  have d1 := (bcellR hHeld _ _ (Nat.lt_succ_self _)).trans c1
  have d2 := (bcellR hHeld _ _ (Nat.lt_succ_self _)).trans c2
  have hW6 : Below w.heap.size w w6 := (hw.trans (hB2.mono hw.size)).trans (hHeld.mono (Nat.le_succ _))
  have ho : w6.ownsRow (w.heap.size + 1) 5 1 v6 20 (cells8 (pkHead0 (20 + l.length) src dst)) := ho6
  clear ho6 hg6 hos5 ho5 hb5 ho4 hg4 hos3 ho3 hb3 hos c0 c1 c2 hB2 hHeld hRB hR3 hR4 hR5 hB3 hc hB hb hc0_0 hc0_1 hc0_2 hz0 hs2
  obtain ⟨g, cap, rfl⟩ := owns_pos ho (by omega)
  go_wp2_with (go_at_call 55; (with_reducible refine (sum_calls _ _ _ (owns_bytes ho) (by rw [pkHead0_length]; omega) (by rw [pkHead0_length])).mono ?_); rintro e w7 ⟨rfl, hb7⟩; replace ho := owns_below ho hb7; replace d0 := keeps hb7 d0; replace d1 := keeps hb7 d1; replace d2 := keeps hb7 d2; replace hW6 := below_step hW6 hb7; have h10 : w7.cell? ⟨g, 10, none⟩ = some (.int .u8 0) := (ho.cellAt 10 (by omega)).trans rfl; have h11 : w7.cell? ⟨g, 11, none⟩ = some (.int .u8 0) := (ho.cellAt 11 (by omega)).trans rfl; have hfz := fun o => ho.frozenAt o)
  obtain ⟨s1, gr1⟩ := ho.stored 10 (.int .u8 ((inet (pkHead0 (20 + l.length) src dst) : Int) / 256 % 256))
  obtain ⟨s2, gr2⟩ := s1.stored 11 (.int .u8 ((inet (pkHead0 (20 + l.length) src dst) : Int) % 256))
  have hg := (ho.lt g rfl).1
  have ec : ((cells8 (pkHead0 (20 + l.length) src dst)).set 10 (.int .u8 ((inet (pkHead0 (20 + l.length) src dst) : Int) / 256 % 256))).set 11 (.int .u8 ((inet (pkHead0 (20 + l.length) src dst) : Int) % 256)) = cells8 (pkHead (20 + l.length) src dst) := by
    rw [c8_int (((inet (pkHead0 (20 + l.length) src dst) : Int) / 256 % 256)) (pkSum (20 + l.length) src dst / 2 ^ 8) (by unfold pkSum; omega), c8_int (((inet (pkHead0 (20 + l.length) src dst) : Int) % 256)) (pkSum (20 + l.length) src dst) (by unfold pkSum; omega)]
    unfold cells8
    rw [← List.map_set, ← List.map_set, pkHead_set]
  rw [ec] at s2
  have hW8 : Below (w.heap.size + 1) w7 ((w7.setCell ⟨g, 10, none⟩ (.int .u8 ((inet (pkHead0 (20 + l.length) src dst) : Int) / 256 % 256))).setCell ⟨g, 11, none⟩ (.int .u8 ((inet (pkHead0 (20 + l.length) src dst) : Int) % 256))) := ((Below.refl _ _).setCell hg _).setCell hg _
  generalize ((w7.setCell ⟨g, 10, none⟩ (.int .u8 ((inet (pkHead0 (20 + l.length) src dst) : Int) / 256 % 256))).setCell ⟨g, 11, none⟩ (.int .u8 ((inet (pkHead0 (20 + l.length) src dst) : Int) % 256))) = w8 at *
  have c2 := (bcellR hW8 _ _ (Nat.lt_succ_self _)).trans d2
  have hW := hW6.trans (hW8.mono (Nat.le_succ _))
  have HB8 := HB.out.below hW
  have hR8 : w.heap.size + 1 ≤ w8.heap.size := Nat.le_trans (Nat.le_trans hR6 hb7.size) hW8.size
  clear h10 h11 hfz s1 gr1 gr2 ho d0 d1 d2 ec hW6 hb7 hR6
  generalize (inet (pkHead0 (20 + l.length) src dst)) = ch at *
  have hRB : w.heap.size + 1 ≤ w8.heap.size := by first | omega | (simp; omega)
  refine wp_region_held_drew (S := fun wS => Below (w.heap.size + 1) w8 wS) (by kernel_rfl) (by exact (Below.refl _ _).drew) (fun hHeld => ?_)
  (refine H_take (i := 0) rfl (by kernel_rfl) (by kernel_rfl) (by kernel_rfl) (fun _ _ _ _ h => h) hHeld (by rfl) ?_; apply Exists.intro; refine ⟨fun w9 hS9 => ?_, ?_⟩; (focus (have hcS := bcellR hS9; go_simp; first | done | with_reducible rfl | exact rfl)); try simp only [Act.put, List.setIfInBounds_toArray, List.set, List.getElem_toArray, List.getElem_cons_zero, List.getElem_cons_succ])
  (refine H_take (i := 2) rfl (by kernel_rfl) (by kernel_rfl) (by kernel_rfl) (fun _ _ _ _ h => h) hHeld (by rfl) ?_; apply Exists.intro; refine ⟨fun w9 hS9 => ?_, ?_⟩; (focus (have hcS := bcellR hS9; go_simp; first | done | with_reducible rfl | exact rfl)); try simp only [Act.put, List.setIfInBounds_toArray, List.set, List.getElem_toArray, List.getElem_cons_zero, List.getElem_cons_succ])
  (refine H_take (i := 3) rfl (by kernel_rfl) (by kernel_rfl) (by kernel_rfl) (fun _ _ _ _ h => h) hHeld (by rfl) ?_; apply Exists.intro; refine ⟨fun w9 hS9 => ?_, ?_⟩; (focus (have hcS := bcellR hS9; go_simp; first | done | with_reducible rfl | exact rfl)); try simp only [Act.put, List.setIfInBounds_toArray, List.set, List.getElem_toArray, List.getElem_cons_zero, List.getElem_cons_succ])
  refine H_one (i := 1) (by kernel_rfl) rfl (fun K hK => ?_)
  go_simp
  go_at_call 56; (with_reducible refine (bytesClone_calls _ (pkHead (20 + l.length) src dst) _ (by exact (owns_bytes s2).below (Below.refl _ _).drew) (by rw [pkHead_length]; omega)).mono ?_); rintro e w9 ⟨v9, rfl, ho9, hb9⟩
  refine hK.out _ _ (by (try dsimp only); exact undr_step hRB hHeld hb9) (fun hHeld => ?_)
  clear hK K
  try simp only [Act.put, List.setIfInBounds_toArray, List.set, List.getElem_toArray, List.getElem_cons_zero, List.getElem_cons_succ]
  have hW9 := hW.trans ((below_undrew hb9).mono hW.size)
  have hbase := hW9.size
  have hos9 := owns_base ho9 hW.size
  refine H_one (i := 4) (by kernel_rfl) rfl (fun K hK => ?_)
  rw [if_pos (by rfl)]
  refine wp_append_bytes (.tmp 44) (.tmp 46) rfl w.heap.size _ 20 (pkHead (20 + l.length) src dst) l rfl hos9 (.slice a l.length c) rfl (HB8.below (below_undrew hb9)) (by omega) hbase ?_
  intro v10 w10 ho10 hg10
  refine hK.out _ _ (by (try dsimp only); exact below_grown hHeld (owns_base (owns_base ho9 (Nat.le_refl _)) hR8) hg10 (Nat.le_trans hR8 (below_undrew hb9).size)) (fun hHeld => ?_)
  clear hK K
  try simp only [Act.put, List.setIfInBounds_toArray, List.set, List.getElem_toArray, List.getElem_cons_zero, List.getElem_cons_succ]
  (refine H_take (i := 5) rfl (by kernel_rfl) (by kernel_rfl) (by kernel_rfl) (fun _ _ _ _ h => h) hHeld (by rfl) ?_; apply Exists.intro; refine ⟨fun w9 hS9 => ?_, ?_⟩; (focus (have hcS := bcellR hS9; go_simp; first | done | with_reducible rfl | exact rfl)); try simp only [Act.put, List.setIfInBounds_toArray, List.set, List.getElem_toArray, List.getElem_cons_zero, List.getElem_cons_succ])
  (refine H_take (i := 6) rfl (by kernel_rfl) (by kernel_rfl) (by kernel_rfl) (fun _ _ _ _ h => h) hHeld (by rfl) ?_; apply Exists.intro; refine ⟨fun w9 hS9 => ?_, ?_⟩; (focus (have hcS := bcellR hS9; go_simp; first | done | with_reducible rfl | exact rfl)); try simp only [Act.put, List.setIfInBounds_toArray, List.set, List.getElem_toArray, List.getElem_cons_zero, List.getElem_cons_succ])
  refine wpAnyH_done (by kernel_rfl) ?_ _
  have hW10 := below_grown hW9 hos9 hg10 hbase
  clear hHeld
  go_wp2_with (fail)
  go_ret2
  refine ⟨_, rfl, ?_, hW10⟩
  rw [pkEnc_length]
  exact ho10
end Go.Proofs.Ytnopdnclefopbaa
