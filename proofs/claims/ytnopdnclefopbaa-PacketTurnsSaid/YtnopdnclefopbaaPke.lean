/- SamePacket; what decoding makes of an encoded packet. -/
import Derived.Test.YtnopdnclefopbaaPkd
namespace Go.Proofs.Ytnopdnclefopbaa
open Go.RowKit
set_option linter.unusedVariables false

abbrev pkV (src dst : Nat) (v : Value) : Value := .agg #[.int .u32 (src : Int), .int .u32 (dst : Int), v]
set_option maxHeartbeats 800000 in
set_option maxRecDepth 100000 in
theorem samePacket_eq (src dst : Nat) (v1 v2 : Value) (l : List UInt8) (w : World) (h1 : Bytes w v1 l) (h2 : Bytes w v2 l) :
    Calls Try.prog 33 #[pkV src dst v1, pkV src dst v2] w fun e w' => e = .returned (.bool true) ∧ Below w.heap.size w w' := by
  have H1 := Lib.hid h1
  have H2 := Lib.hid h2
  obtain ⟨a1, c1, rfl, -⟩ := h1
  obtain ⟨a2, c2, rfl, -⟩ := h2
  go_enter Try.func33, Try.ntmps33
  go_wp2_with (fail)
  have hw : Below w.heap.size w ((w.alloc (Obj.cells #[.int .u32 (src : Int), .int .u32 (dst : Int), .slice a1 l.length c1] 48)).alloc (Obj.cells #[.int .u32 (src : Int), .int .u32 (dst : Int), .slice a2 l.length c2] 48)) := ((((Below.refl w.heap.size w).alloc (by first | exact Nat.le_refl _ | (simp; done) | (simp; omega)) _)).alloc (by first | exact Nat.le_refl _ | (simp; done) | (simp; omega)) _)
  have hc0_0 : ((w.alloc (Obj.cells #[.int .u32 (src : Int), .int .u32 (dst : Int), .slice a1 l.length c1] 48)).alloc (Obj.cells #[.int .u32 (src : Int), .int .u32 (dst : Int), .slice a2 l.length c2] 48)).cell? ⟨w.heap.size, 0, none⟩ = some (.int .u32 (src : Int)) := cell_up (cell_at (by first | rfl | simp) 0 rfl)
  have hc0_1 : ((w.alloc (Obj.cells #[.int .u32 (src : Int), .int .u32 (dst : Int), .slice a1 l.length c1] 48)).alloc (Obj.cells #[.int .u32 (src : Int), .int .u32 (dst : Int), .slice a2 l.length c2] 48)).cell? ⟨w.heap.size, 1, none⟩ = some (.int .u32 (dst : Int)) := cell_up (cell_at (by first | rfl | simp) 1 rfl)
  have hc0_2 : ((w.alloc (Obj.cells #[.int .u32 (src : Int), .int .u32 (dst : Int), .slice a1 l.length c1] 48)).alloc (Obj.cells #[.int .u32 (src : Int), .int .u32 (dst : Int), .slice a2 l.length c2] 48)).cell? ⟨w.heap.size, 2, none⟩ = some (.slice a1 l.length c1) := cell_up (cell_at (by first | rfl | simp) 2 rfl)
  have hc1_0 : ((w.alloc (Obj.cells #[.int .u32 (src : Int), .int .u32 (dst : Int), .slice a1 l.length c1] 48)).alloc (Obj.cells #[.int .u32 (src : Int), .int .u32 (dst : Int), .slice a2 l.length c2] 48)).cell? ⟨w.heap.size + 1, 0, none⟩ = some (.int .u32 (src : Int)) := cell_at (by first | rfl | simp) 0 rfl
  have hc1_1 : ((w.alloc (Obj.cells #[.int .u32 (src : Int), .int .u32 (dst : Int), .slice a1 l.length c1] 48)).alloc (Obj.cells #[.int .u32 (src : Int), .int .u32 (dst : Int), .slice a2 l.length c2] 48)).cell? ⟨w.heap.size + 1, 1, none⟩ = some (.int .u32 (dst : Int)) := cell_at (by first | rfl | simp) 1 rfl
  have hc1_2 : ((w.alloc (Obj.cells #[.int .u32 (src : Int), .int .u32 (dst : Int), .slice a1 l.length c1] 48)).alloc (Obj.cells #[.int .u32 (src : Int), .int .u32 (dst : Int), .slice a2 l.length c2] 48)).cell? ⟨w.heap.size + 1, 2, none⟩ = some (.slice a2 l.length c2) := cell_at (by first | rfl | simp) 2 rfl
  have hs0 : w.heap.size < ((w.alloc (Obj.cells #[.int .u32 (src : Int), .int .u32 (dst : Int), .slice a1 l.length c1] 48)).alloc (Obj.cells #[.int .u32 (src : Int), .int .u32 (dst : Int), .slice a2 l.length c2] 48)).heap.size := by simp <;> omega
  have hs1 : w.heap.size + 1 < ((w.alloc (Obj.cells #[.int .u32 (src : Int), .int .u32 (dst : Int), .slice a1 l.length c1] 48)).alloc (Obj.cells #[.int .u32 (src : Int), .int .u32 (dst : Int), .slice a2 l.length c2] 48)).heap.size := by simp <;> omega
  have hz0 : ∀ o, ((w.alloc (Obj.cells #[.int .u32 (src : Int), .int .u32 (dst : Int), .slice a1 l.length c1] 48)).alloc (Obj.cells #[.int .u32 (src : Int), .int .u32 (dst : Int), .slice a2 l.length c2] 48)).frozen? ⟨w.heap.size, o, none⟩ = false := fun o => froz_up (by first | (simp; done) | (simp; omega)) (froz_at (by first | rfl | simp) o)
  have hz1 : ∀ o, ((w.alloc (Obj.cells #[.int .u32 (src : Int), .int .u32 (dst : Int), .slice a1 l.length c1] 48)).alloc (Obj.cells #[.int .u32 (src : Int), .int .u32 (dst : Int), .slice a2 l.length c2] 48)).frozen? ⟨w.heap.size + 1, o, none⟩ = false := fun o => froz_at (by first | rfl | simp) o
  generalize ((w.alloc (Obj.cells #[.int .u32 (src : Int), .int .u32 (dst : Int), .slice a1 l.length c1] 48)).alloc (Obj.cells #[.int .u32 (src : Int), .int .u32 (dst : Int), .slice a2 l.length c2] 48)) = w0 at *
  have hB : Below w0.heap.size w0 w0 := Below.refl _ _
  have e1 := conv_string (H1.out.below hw)
  have e2 := conv_string (H2.out.below hw)
  go_wp2_with (fail)
  rw [e1]
  go_wp2_with (fail)
  go_ret
  exact ⟨rfl, hw⟩
theorem pkSrc_enc (s t : Nat) (d : List UInt8) (h : s < 4294967296) : pkSrc (pkEnc s t d) = s := of4_be4 s h
theorem pkDst_enc (s t : Nat) (d : List UInt8) (h : t < 4294967296) : pkDst (pkEnc s t d) = t := of4_be4 t h
theorem pkDrop_enc (s t : Nat) (d : List UInt8) : (pkEnc s t d).drop 20 = d := rfl
theorem pkGood_enc (s t : Nat) (d : List UInt8) (h1 : s < 4294967296) (h2 : t < 4294967296) : pkGood (pkEnc s t d) := by
  unfold pkGood
  rw [pkSrc_enc s t d h1, pkDst_enc s t d h2, pkDrop_enc]
theorem decode_enc (v : Value) (s t : Nat) (d : List UInt8) (w : World) (hb : Bytes w v (pkEnc s t d)) (h1 : s < 4294967296) (h2 : t < 4294967296) (hd : d.length ≤ 200) :
    Calls Try.prog 32 #[v] w (DecOk w s t d) := by
  have hl := pkEnc_length s t d
  refine (decode_mid v _ w hb (by omega) (by omega)).mono fun e w' h => ?_
  unfold DecMid at h
  rw [if_pos (pkGood_enc s t d h1 h2), pkSrc_enc s t d h1, pkDst_enc s t d h2, pkDrop_enc] at h
  exact h
/-- The ends' addresses. -/
def pkA (e : Bool) : Nat := if e then 167903232 else 167837696
theorem packet_any (e : Bool) (n : Int) (k a b : Int) (s : ByteArray) (w : World) (hn : n = if e then 1 else 0) (h2 : IntOk a) (h3 : IntOk b) (hs : s.size ≤ maxLen) :
    Calls Try.prog 30 #[.int .i64 n, rawV k a b s] w (PkNew w (pkA e + (ppick a 65536).toNat) (pkA (!e) + (ppick b 65536).toNat) (s.data.toList.take 40)) := by
  have p1 := ppick_pos (n := a) (m := 65536) (by omega)
  have p2 := ppick_pos (n := b) (m := 65536) (by omega)
  subst hn
  cases e
  · exact packet_0 k a b s _ _ w h2 h3 hs (Lib.hid (by omega)) (Lib.hid (by omega)) (by omega) (by omega)
  · exact packet_1 k a b s _ _ w h2 h3 hs (Lib.hid (by omega)) (Lib.hid (by omega)) (by omega) (by omega)
end Go.Proofs.Ytnopdnclefopbaa
