/- Digests: what the functions of package sha compute, in plain words. It names no function of the program. -/
import Derived.Test.YtcebndkiagbddaaDoorFC
namespace Go.Proofs.YtcebndkiagbddaaDoor
open Go.RowKit
set_option linter.unusedVariables false
set_option linter.unusedSimpArgs false

def padZ (n : Nat) : Nat := (119 - n % 64) % 64
def be8 (n : Nat) : List UInt8 := (List.range 8).map fun j => UInt8.ofNat (n / 2 ^ (8 * (7 - j)))
def shaPad (l : List UInt8) : List UInt8 := l ++ 128 :: (List.replicate (padZ l.length) 0 ++ be8 (8 * l.length))
theorem padZ_lt (n : Nat) : padZ n < 64 := Nat.mod_lt _ (by omega)
theorem padZ_test (n k : Nat) (hk : k ≤ padZ n) : ((n + 1 + k) % 64 = 56 ↔ k = padZ n) := by unfold padZ at *; omega
theorem be8_length (n : Nat) : (be8 n).length = 8 := by simp [be8]
theorem be8_take (n j : Nat) (hj : j < 8) : (be8 n).take (j + 1) = (be8 n).take j ++ [UInt8.ofNat (n / 2 ^ (8 * (7 - j)))] := by
  rw [List.take_succ_eq_append_getElem (by rw [be8_length]; exact hj)]
  simp [be8]
theorem pad_byte (n j : Nat) (hj : j ≤ 7) : u8of (8 * (n : Int) / 2 ^ (8 * (7 - (j : Int))).toNat) = UInt8.ofNat (8 * n / 2 ^ (8 * (7 - j))) := by
  have e : (8 * (7 - (j : Int))).toNat = 8 * (7 - j) := by omega
  rw [e]
  have e2 : (8 * (n : Int) / 2 ^ (8 * (7 - j))) = ((8 * n / 2 ^ (8 * (7 - j)) : Nat) : Int) := by simp
  rw [e2]; unfold u8of
  exact UInt8.toNat_inj.1 (by rw [UInt8.toNat_ofNat', UInt8.toNat_ofNat']; omega)
theorem pad_step (l z : List UInt8) (n j : Nat) (hj : 0 ≤ 7 - (j : Int)) : l ++ 128 :: (z ++ (be8 (8 * n)).take j) ++ [u8of (8 * (n : Int) / 2 ^ (8 * (7 - (j : Int))).toNat)] = l ++ 128 :: (z ++ (be8 (8 * n)).take (j + 1)) := by
  rw [be8_take _ _ (by omega), pad_byte n j (by omega)]; simp
theorem pad_end (l : List UInt8) (j : Nat) (hj : ¬ 0 ≤ 7 - (j : Int)) (hl : ¬ 1000 < (l.length : Int)) : l ++ 128 :: (List.replicate (padZ l.length) 0 ++ (be8 (8 * l.length)).take j) = bif decide (1000 < (l.length : Int)) then [] else shaPad l := by
  rw [decide_eq_false hl, List.take_of_length_le (by rw [be8_length]; omega)]; rfl
theorem shaPad_length (l : List UInt8) : (shaPad l).length = l.length + padZ l.length + 9 := by
  unfold shaPad; simp [be8_length]; omega
theorem shaPad_blocks (l : List UInt8) : ∃ m, (shaPad l).length = 64 * m ∧ 64 * m ≤ l.length + 72 := by
  refine ⟨(shaPad l).length / 64, ?_, ?_⟩
  · rw [shaPad_length]; unfold padZ; omega
  · rw [shaPad_length]; unfold padZ; omega

/-- A word rotated. -/
def rl (x : UInt32) (k : Int) : UInt32 :=
  shl32 x (UInt64.ofNat (k % 18446744073709551616).toNat &&& 31).toNat ||| shr32 x (32 - (UInt64.ofNat (k % 18446744073709551616).toNat &&& 31)).toNat
abbrev dn (x : UInt32) (n : Int) : UInt32 := rl x (-n)
theorem and31 (c : UInt64) : (c &&& 31).toNat ≤ 31 := by
  rw [UInt64.toNat_and]; exact Nat.and_le_right
theorem sub31 (c : UInt64) (h : c.toNat ≤ 31) : (32 - c).toNat ≤ 32 := by
  rw [UInt64.toNat_sub]
  have : (32 : UInt64).toNat = 32 := rfl
  omega

def K256 : List UInt32 := [
  0x428a2f98, 0x71374491, 0xb5c0fbcf, 0xe9b5dba5, 0x3956c25b, 0x59f111f1, 0x923f82a4, 0xab1c5ed5,
  0xd807aa98, 0x12835b01, 0x243185be, 0x550c7dc3, 0x72be5d74, 0x80deb1fe, 0x9bdc06a7, 0xc19bf174,
  0xe49b69c1, 0xefbe4786, 0x0fc19dc6, 0x240ca1cc, 0x2de92c6f, 0x4a7484aa, 0x5cb0a9dc, 0x76f988da,
  0x983e5152, 0xa831c66d, 0xb00327c8, 0xbf597fc7, 0xc6e00bf3, 0xd5a79147, 0x06ca6351, 0x14292967,
  0x27b70a85, 0x2e1b2138, 0x4d2c6dfc, 0x53380d13, 0x650a7354, 0x766a0abb, 0x81c2c92e, 0x92722c85,
  0xa2bfe8a1, 0xa81a664b, 0xc24b8b70, 0xc76c51a3, 0xd192e819, 0xd6990624, 0xf40e3585, 0x106aa070,
  0x19a4c116, 0x1e376c08, 0x2748774c, 0x34b0bcb5, 0x391c0cb3, 0x4ed8aa4a, 0x5b9cca4f, 0x682e6ff3,
  0x748f82ee, 0x78a5636f, 0x84c87814, 0x8cc70208, 0x90befffa, 0xa4506ceb, 0xbef9a3f7, 0xc67178f2]
def H256 : List UInt32 := [0x6a09e667, 0xbb67ae85, 0x3c6ef372, 0xa54ff53a, 0x510e527f, 0x9b05688c, 0x1f83d9ab, 0x5be0cd19]
/-- Words filled by bytes. -/
def wfS (b : List UInt8) (w : List UInt32) (k : Nat) : List UInt32 := w.set (k / 4) (shl32 (w.getD (k / 4) 0) 8 ||| UInt32.ofNat (b.getD k 0).toNat)
def wf (b : List UInt8) : Nat → List UInt32
  | 0 => List.replicate 64 0
  | k + 1 => wfS b (wf b k) k
def wxS (v : List UInt32) (k : Nat) : List UInt32 :=
  v.set (16 + k) (v.getD k 0 + (dn (v.getD (k + 1) 0) 7 ^^^ dn (v.getD (k + 1) 0) 18 ^^^ shr32 (v.getD (k + 1) 0) 3) + v.getD (k + 9) 0 + (dn (v.getD (k + 14) 0) 17 ^^^ dn (v.getD (k + 14) 0) 19 ^^^ shr32 (v.getD (k + 14) 0) 10))
def wx (w : List UInt32) : Nat → List UInt32
  | 0 => w
  | k + 1 => wxS (wx w k) k
def wds (b : List UInt8) : List UInt32 := wx (wf b b.length) 48
theorem wf_length (b : List UInt8) : ∀ k, (wf b k).length = 64
  | 0 => by simp [wf]
  | k + 1 => by simp [wf, wfS, wf_length b k]
theorem wx_length {w : List UInt32} (h : w.length = 64) : ∀ k, (wx w k).length = 64
  | 0 => h
  | k + 1 => by simp [wx, wxS, wx_length h k]
/-- One of 64 rounds. -/
def rdS (w : List UInt32) (v : List UInt32) (k : Nat) : List UInt32 :=
  let a := v.getD 0 0; let e := v.getD 4 0
  let one := v.getD 7 0 + (dn e 6 ^^^ dn e 11 ^^^ dn e 25) + (e &&& v.getD 5 0 ^^^ ~~~e &&& v.getD 6 0) + K256.getD k 0 + w.getD k 0
  let two := (dn a 2 ^^^ dn a 13 ^^^ dn a 22) + (a &&& v.getD 1 0 ^^^ a &&& v.getD 2 0 ^^^ v.getD 1 0 &&& v.getD 2 0)
  [one + two, a, v.getD 1 0, v.getD 2 0, v.getD 3 0 + one, e, v.getD 5 0, v.getD 6 0]
def rd (w : List UInt32) (h : List UInt32) : Nat → List UInt32
  | 0 => h
  | k + 1 => rdS w (rd w h k) k
def adS (h v : List UInt32) (k : Nat) : List UInt32 := v.set k (v.getD k 0 + h.getD k 0)
def ad (h v : List UInt32) : Nat → List UInt32
  | 0 => v
  | k + 1 => adS h (ad h v k) k
def blk (h : List UInt32) (b : List UInt8) : List UInt32 := ad h (rd (wds b) h 64) 8
theorem rd_length {w h : List UInt32} (hh : h.length = 8) : ∀ k, (rd w h k).length = 8
  | 0 => hh
  | k + 1 => by simp [rd, rdS]
theorem ad_length {h v : List UInt32} (hh : v.length = 8) : ∀ k, (ad h v k).length = 8
  | 0 => hh
  | k + 1 => by simp [ad, adS, ad_length hh k]
theorem blk_length {h : List UInt32} (hh : h.length = 8) (b : List UInt8) : (blk h b).length = 8 := ad_length (rd_length hh 64) 8
/-- The digest's words behind so many blocks. -/
def hsS (p : List UInt8) (h : List UInt32) (k : Nat) : List UInt32 := blk h ((p.drop (64 * k)).take 64)
def hs (p : List UInt8) : Nat → List UInt32
  | 0 => H256
  | k + 1 => hsS p (hs p k) k
theorem hs_length (p : List UInt8) : ∀ k, (hs p k).length = 8
  | 0 => rfl
  | k + 1 => blk_length (hs_length p k) _
def be4 (x : UInt32) : List UInt8 := [UInt8.ofNat (shr32 x 24).toNat, UInt8.ofNat (shr32 x 16).toNat, UInt8.ofNat (shr32 x 8).toNat, UInt8.ofNat x.toNat]
def dg (h : List UInt32) : Nat → List UInt8
  | 0 => []
  | k + 1 => dg h k ++ be4 (h.getD k 0)
theorem dg_length (h : List UInt32) : ∀ k, (dg h k).length = 4 * k
  | 0 => rfl
  | k + 1 => by simp [dg, be4, dg_length h k]; omega
def shaSum (l : List UInt8) : List UInt8 := dg (hs (shaPad l) ((shaPad l).length / 64)) 8
theorem shaSum_length (l : List UInt8) : (shaSum l).length = 32 := dg_length _ 8

theorem wf0 (b : List UInt8) : wf b 0 = List.replicate 64 0 := rfl
theorem wfs (b : List UInt8) (k : Nat) : wf b (k + 1) = wfS b (wf b k) k := rfl
theorem wx0 (w : List UInt32) : wx w 0 = w := rfl
theorem wxs (w : List UInt32) (k : Nat) : wx w (k + 1) = wxS (wx w k) k := rfl
theorem wds_ (b : List UInt8) : wx (wf b b.length) 48 = wds b := rfl
theorem rd0 (w h : List UInt32) : rd w h 0 = h := rfl
theorem rds (w h : List UInt32) (k : Nat) : rd w h (k + 1) = rdS w (rd w h k) k := rfl
theorem ad0 (h v : List UInt32) : ad h v 0 = v := rfl
theorem ads (h v : List UInt32) (k : Nat) : ad h v (k + 1) = adS h (ad h v k) k := rfl
theorem blk_ (h : List UInt32) (b : List UInt8) : ad h (rd (wds b) h 64) 8 = blk h b := rfl
theorem hs0 (p : List UInt8) : hs p 0 = H256 := rfl
theorem hss (p : List UInt8) (k : Nat) : hs p (k + 1) = hsS p (hs p k) k := rfl
theorem dg0 (h : List UInt32) : dg h 0 = [] := rfl
theorem dgs (h : List UInt32) (k : Nat) : dg h (k + 1) = dg h k ++ be4 (h.getD k 0) := rfl
theorem shaSum_ {l : List UInt8} {m : Nat} (h : (shaPad l).length = 64 * m) : dg (hs (shaPad l) m) 8 = shaSum l := by
  unfold shaSum; rw [h, Nat.mul_div_cancel_left _ (by omega)]
attribute [irreducible] wf wx wds rd ad blk hs dg shaSum rl shaPad be8
theorem fz {f : Nat → UInt32} {g : Nat → UInt32} (h : ∀ i, f i = g i) {n : Nat} : ∀ i, i < n → EV.u32 (f i) = EV.u32 (g i) := fun i _ => by rw [h i]

/-- Words as a function of the place, one of them stored. -/
theorem bz_set {W W' : List UInt32} {o n : Nat} {y : UInt32} (h : W' = W.set o y) (hl : n ≤ W.length) : ∀ i, i < n → (bif Nat.beq i o then EV.u32 y else EV.u32 (W.getD i 0)) = EV.u32 (W'.getD i 0) := by
  intro i hi
  subst h
  rw [List.getD_eq_getElem?_getD, List.getD_eq_getElem?_getD, List.getElem?_set]
  cases hb : Nat.beq i o with
  | true =>
    have := Nat.eq_of_beq_eq_true hb
    subst this
    rw [if_pos rfl, if_pos (by omega)]; rfl
  | false =>
    have : o ≠ i := fun e => by subst e; simp at hb
    rw [if_neg this]; rfl
theorem wf_step {l : List UInt8} {k : Nat} : ∀ i, i < 64 → (bif Nat.beq i (0 + ((k : Int) / 4).toNat * 1) then EV.u32 (shl32 ((wf l k).getD (0 + ((k : Int) / 4).toNat * 1) 0) (Int.toNat 8) ||| UInt32.ofNat (l.getD ((k : Int)).toNat 0).toNat) else EV.u32 ((wf l k).getD i 0)) = EV.u32 ((wf l (k + 1)).getD i 0) := by
  have e : 0 + ((k : Int) / 4).toNat * 1 = k / 4 := by omega
  rw [e]
  exact bz_set (wfs _ _) (by rw [wf_length]; omega)
theorem wx_step {w : List UInt32} {j : Nat} (hw : w.length = 64) : ∀ i, i < 64 → (bif Nat.beq i (0 + (16 + (j : Int)).toNat * 1) then EV.u32 ((wx w j).getD (0 + (16 + (j : Int) - 16).toNat * 1) 0 +
    (dn ((wx w j).getD (0 + (16 + (j : Int) - 15).toNat * 1) 0) 7 ^^^ dn ((wx w j).getD (0 + (16 + (j : Int) - 15).toNat * 1) 0) 18 ^^^ shr32 ((wx w j).getD (0 + (16 + (j : Int) - 15).toNat * 1) 0) (Int.toNat 3)) +
    (wx w j).getD (0 + (16 + (j : Int) - 7).toNat * 1) 0 +
    (dn ((wx w j).getD (0 + (16 + (j : Int) - 2).toNat * 1) 0) 17 ^^^ dn ((wx w j).getD (0 + (16 + (j : Int) - 2).toNat * 1) 0) 19 ^^^ shr32 ((wx w j).getD (0 + (16 + (j : Int) - 2).toNat * 1) 0) (Int.toNat 10)))
    else EV.u32 ((wx w j).getD i 0)) = EV.u32 ((wx w (j + 1)).getD i 0) := by
  have e1 : 0 + (16 + (j : Int)).toNat * 1 = 16 + j := by omega
  have e2 : 0 + (16 + (j : Int) - 16).toNat * 1 = j := by omega
  have e3 : 0 + (16 + (j : Int) - 15).toNat * 1 = j + 1 := by omega
  have e4 : 0 + (16 + (j : Int) - 7).toNat * 1 = j + 9 := by omega
  have e5 : 0 + (16 + (j : Int) - 2).toNat * 1 = j + 14 := by omega
  rw [e1, e2, e3, e4, e5]
  exact bz_set (wxs _ _) (by rw [wx_length hw]; omega)
theorem hs_step {p : List UInt8} {k : Nat} : ∀ i, i < 8 → EV.u32 ((blk (hs p k) ((p.drop (64 * (k : Int)).toNat).take ((64 * (k : Int) + 64).toNat - (64 * (k : Int)).toNat))).getD i 0) = EV.u32 ((hs p (k + 1)).getD i 0) := by
  have e1 : (64 * (k : Int)).toNat = 64 * k := by omega
  have e2 : (64 * (k : Int) + 64).toNat = 64 * k + 64 := by omega
  rw [e1, e2, Nat.add_sub_cancel_left, hss]
  exact fun _ _ => rfl
theorem ad_step {h v : List UInt32} {k : Nat} (hv : v.length = 8) : ∀ i, i < 8 → (bif Nat.beq i (0 + ((k : Int)).toNat * 1) then EV.u32 ((ad h v k).getD (0 + ((k : Int)).toNat * 1) 0 + h.getD (0 + ((k : Int)).toNat * 1) 0) else EV.u32 ((ad h v k).getD i 0)) = EV.u32 ((ad h v (k + 1)).getD i 0) := by
  have e : 0 + ((k : Int)).toNat * 1 = k := by omega
  rw [e]
  exact bz_set (ads _ _ _) (by rw [ad_length hv]; omega)
end Go.Proofs.YtcebndkiagbddaaDoor
