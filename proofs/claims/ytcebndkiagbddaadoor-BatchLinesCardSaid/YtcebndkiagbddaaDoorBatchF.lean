/- Settings as lines of texts, plainly. It names no function of the program. -/
import Derived.Test.YtcebndkiagbddaaDoorAddrF
import Derived.Test.YtcebndkiagbddaaDoorHexF
import Derived.Test.YtcebndkiagbddaaDoorTrieN
namespace Go.Proofs.YtcebndkiagbddaaDoor
open Go.Lib
set_option linter.unusedVariables false
set_option linter.unusedSimpArgs false

def wrd : Nat → List UInt8
  | 1 => [112, 114, 105, 118, 97, 116, 101, 95, 107, 101, 121]
  | 2 => [108, 105, 115, 116, 101, 110, 95, 112, 111, 114, 116]
  | 3 => [114, 101, 112, 108, 97, 99, 101, 95, 112, 101, 101, 114, 115]
  | 4 => [112, 117, 98, 108, 105, 99, 95, 107, 101, 121]
  | 5 => [114, 101, 109, 111, 118, 101]
  | 6 => [112, 114, 101, 115, 104, 97, 114, 101, 100, 95, 107, 101, 121]
  | 7 => [101, 110, 100, 112, 111, 105, 110, 116]
  | 8 => [112, 101, 114, 115, 105, 115, 116, 101, 110, 116, 95, 107, 101, 101, 112, 97, 108, 105, 118, 101, 95, 105, 110, 116, 101, 114, 118, 97, 108]
  | 9 => [114, 101, 112, 108, 97, 99, 101, 95, 97, 108, 108, 111, 119, 101, 100, 95, 105, 112, 115]
  | 10 => [97, 108, 108, 111, 119, 101, 100, 95, 105, 112]
  | _ => []
def zs64 : List UInt8 := List.replicate 64 48
def tru : List UInt8 := [116, 114, 117, 101]
/-- A setting: its kind, text, number and net. -/
structure SetS where
  k : Int
  t : List UInt8
  n : Int
  p : List Bool
  deriving Inhabited, DecidableEq
def netT (p : List Bool) : List UInt8 := adrT (adrN p) ++ 47 :: decDigits p.length
/-- An address and a port behind it. -/
def endA (s : List UInt8) : List UInt8 := if (58 : UInt8) ∈ s then bef 58 s else s
def endP (s : List UInt8) : List UInt8 := if (58 : UInt8) ∈ s then aft 58 s else []
def endE (s : List UInt8) : Int := if (58 : UInt8) ∈ s ∧ (adrR (endA s)).2 = 0 ∧ smE (endP s) 65535 = true ∧ smN (endP s) ≠ 0 then 0 else 3
def isT (k : Int) : Bool := decide (k = 1) || decide (k = 4) || decide (k = 6) || decide (k = 7)
def isN (k : Int) : Bool := decide (k = 2) || decide (k = 8)
def chkS (s : SetS) : Int :=
  if s.k < 1 ∨ 10 < s.k then 2
  else if (isT s.k = false ∧ s.t ≠ []) ∨ (isN s.k = false ∧ s.n ≠ 0) ∨ (s.k ≠ 10 ∧ s.p ≠ []) then 3
  else if s.k = 1 ∨ s.k = 4 then hexC s.t
  else if s.k = 6 then (if s.t = [] then 0 else if s.t = zs64 then 3 else hexC s.t)
  else if s.k = 7 then endE s.t
  else if s.k = 10 then 0
  else if isN s.k = true ∧ (s.n < 0 ∨ 65535 < s.n) then 4 else 0
def valS (s : SetS) : List UInt8 :=
  if isN s.k then itoa s.n else if s.k = 3 ∨ s.k = 5 ∨ s.k = 9 then tru else if s.k = 10 then netT s.p else if s.k = 6 ∧ s.t = [] then zs64 else s.t
def lineS (s : SetS) : LnP × Int := if chkS s = 0 then ((wrd s.k.toNat, valS s), 0) else (([], []), chkS s)
def kindOf (w : List UInt8) : Nat → Int
  | 0 => 0
  | i + 1 => if i + 1 ≤ 10 ∧ wrd (i + 1) = w then ((i + 1 : Nat) : Int) else kindOf w i
/-- A net of a text. -/
def netR (s : List UInt8) : List Bool × Int :=
  if (47 : UInt8) ∈ s ∧ (adrR (bef 47 s)).2 = 0 ∧ smE (aft 47 s) 32 = true ∧ pcut (adrR (bef 47 s)).1 (decV 0 (aft 47 s)) = (adrR (bef 47 s)).1 then (pathN (adrR (bef 47 s)).1 (decV 0 (aft 47 s)), 0) else ([], 3)
def rd0 (l : LnP) : SetS :=
  if kindOf l.1 10 = 2 ∨ kindOf l.1 10 = 8 then ⟨kindOf l.1 10, [], if smE l.2 65535 then smN l.2 else 0, []⟩
  else if kindOf l.1 10 = 3 ∨ kindOf l.1 10 = 5 ∨ kindOf l.1 10 = 9 then ⟨kindOf l.1 10, [], 0, []⟩
  else if kindOf l.1 10 = 10 then ⟨10, [], 0, (netR l.2).1⟩
  else if kindOf l.1 10 = 6 ∧ l.2 = zs64 then ⟨6, [], 0, []⟩ else ⟨kindOf l.1 10, l.2, 0, []⟩
def set0 : SetS := ⟨0, [], 0, []⟩
def readS (l : LnP) : SetS × Int :=
  if kindOf l.1 10 = 0 then (set0, 2) else if (lineS (rd0 l)).2 = 0 ∧ (lineS (rd0 l)).1 = l then (rd0 l, 0) else (set0, 3)
theorem wrd_facts : ∀ i : Fin 11, i.val ≠ 0 → kindOf (wrd i.val) 10 = (i.val : Int) ∧ (wrd i.val).all okK = true ∧ 1 ≤ (wrd i.val).length ∧ (wrd i.val).length ≤ 30 := by decide
theorem wrd_at {k : Int} (h1 : 1 ≤ k) (h2 : k ≤ 10) : kindOf (wrd k.toNat) 10 = k ∧ (wrd k.toNat).all okK = true ∧ 1 ≤ (wrd k.toNat).length ∧ (wrd k.toNat).length ≤ 30 := by
  have := wrd_facts ⟨k.toNat, by omega⟩ (by show k.toNat ≠ 0; omega)
  have e : ((k.toNat : Nat) : Int) = k := by omega
  rw [show ((⟨k.toNat, by omega⟩ : Fin 11).val) = k.toNat from rfl, e] at this
  exact this
theorem dig_okV : ∀ c : UInt8, isD c = true → okV c = true := by
  intro c h
  unfold isD at h; unfold okV
  rw [Bool.and_eq_true, decide_eq_true_eq, decide_eq_true_eq] at h
  rw [decide_eq_true (by omega), decide_eq_true (by omega)]; rfl
theorem dec_okV (u : Nat) : (decDigits u).all okV = true := by
  have := dec_all u
  rw [List.all_eq_true] at this ⊢
  exact fun c hc => dig_okV c (this c hc)
theorem adrT_okV (a : Nat) : (adrT a).all okV = true := by
  unfold adrT
  rw [join_cons2, join_cons2, join_cons2, join_one]
  simp only [List.all_append, dec_okV]; decide
theorem hexd_okV : ∀ n : Fin 16, okV (hexd n.val) = true := by decide
theorem hexText_okV : ∀ l : List UInt8, (hexText l).all okV = true
  | [] => rfl
  | b :: l => by
    have h1 : b.toNat / 16 < 16 := by have := b.toNat_lt; omega
    have h2 : b.toNat % 16 < 16 := by omega
    show (hexd (b.toNat / 16) :: hexd (b.toNat % 16) :: hexText l).all okV = true
    rw [List.all_cons, List.all_cons, hexText_okV l, hexd_okV ⟨_, h1⟩, hexd_okV ⟨_, h2⟩]; rfl
theorem hexC_okV {t : List UInt8} (h : hexC t = 0) : t.all okV = true ∧ t.length = 64 := by
  unfold hexC at h
  by_cases h1 : (t.length : Int) = 64
  · rw [if_neg (fun k => k h1)] at h
    unfold hexE at h
    rw [if_neg (by omega), if_neg (by omega)] at h
    cases hu : unhex t with
    | none => rw [hu, if_pos rfl] at h; cases h
    | some b => exact ⟨by rw [← hexText_unhex t b hu]; exact hexText_okV b, by omega⟩
  · rw [if_pos h1] at h; cases h
theorem endE_okV {t : List UInt8} (h : endE t = 0) : t.all okV = true ∧ t.length ≤ 21 := by
  unfold endE at h
  split at h
  · rename_i k
    obtain ⟨k1, k2, k3, k4⟩ := k
    unfold endA at k2
    unfold endP at k3
    rw [if_pos k1] at k2 k3
    have e := bef_aft k1
    obtain ⟨a1, a2⟩ := adr_turns k2
    obtain ⟨b1, b2, b3⟩ := sm_ok k3
    rw [← e, ← a1, ← dec_back b1]
    refine ⟨by rw [List.all_append, List.all_cons, adrT_okV, dec_okV]; rfl, ?_⟩
    have := adrT_len (adrR (bef 58 t)).1
    have := dec_len (u := decV 0 (aft 58 t)) (numOk_lt b1)
    rw [List.length_append, List.length_cons]; omega
  · cases h
theorem netT_okV {p : List Bool} (h : p.length ≤ 32) : (netT p).all okV = true ∧ (netT p).length ≤ 21 := by
  unfold netT
  refine ⟨by rw [List.all_append, List.all_cons, adrT_okV, dec_okV]; rfl, ?_⟩
  have := adrT_len (adrN p)
  have := dec_len (u := p.length) (by omega)
  rw [List.length_append, List.length_cons]; omega
theorem chk_inv {s : SetS} (h : chkS s = 0) : 1 ≤ s.k ∧ s.k ≤ 10 ∧ (isT s.k = false → s.t = []) ∧ (isN s.k = false → s.n = 0) ∧ (s.k ≠ 10 → s.p = []) ∧ (s.k = 1 ∨ s.k = 4 → hexC s.t = 0) ∧ (s.k = 6 → s.t = [] ∨ (s.t ≠ zs64 ∧ hexC s.t = 0)) ∧ (s.k = 7 → endE s.t = 0) ∧ (isN s.k = true → 0 ≤ s.n ∧ s.n ≤ 65535) := by
  unfold chkS at h
  by_cases h1 : s.k < 1 ∨ 10 < s.k
  · rw [if_pos h1] at h; cases h
  rw [if_neg h1] at h
  by_cases h2 : (isT s.k = false ∧ s.t ≠ []) ∨ (isN s.k = false ∧ s.n ≠ 0) ∨ (s.k ≠ 10 ∧ s.p ≠ [])
  · rw [if_pos h2] at h; cases h
  rw [if_neg h2] at h
  rw [not_or, not_or, not_and, not_and, not_and] at h2
  refine ⟨by omega, by omega, fun k => Decidable.not_not.1 (h2.1 k), fun k => Decidable.not_not.1 (h2.2.1 k), fun k => Decidable.not_not.1 (h2.2.2 k), fun k => ?_, fun k => ?_, fun k => ?_, fun k => ?_⟩
  · rw [if_pos k] at h; exact h
  · rw [if_neg (by omega), if_pos k] at h
    by_cases h3 : s.t = []
    · exact .inl h3
    · rw [if_neg h3] at h
      by_cases h4 : s.t = zs64
      · rw [if_pos h4] at h; cases h
      · rw [if_neg h4] at h; exact .inr ⟨h4, h⟩
  · rw [if_neg (by omega), if_neg (by omega), if_pos k] at h; exact h
  · have k' : s.k = 2 ∨ s.k = 8 := by unfold isN at k; simpa using k
    rw [if_neg (by omega), if_neg (by omega), if_neg (by omega), if_neg (by omega)] at h
    by_cases h5 : isN s.k = true ∧ (s.n < 0 ∨ 65535 < s.n)
    · rw [if_pos h5] at h; cases h
    · rw [not_and] at h5
      have := h5 k
      omega
theorem itoa_nat {n : Int} (h : 0 ≤ n) : itoa n = decDigits n.toNat := by unfold itoa; rw [if_neg (by omega)]
theorem isN_iff {k : Int} : isN k = true ↔ k = 2 ∨ k = 8 := by unfold isN; simp
theorem isT_iff {k : Int} : isT k = true ↔ k = 1 ∨ k = 4 ∨ k = 6 ∨ k = 7 := by unfold isT; simp [or_assoc]
theorem isN_no {k : Int} (h : k ≠ 2) (h2 : k ≠ 8) : isN k = false := by
  cases hb : isN k with
  | false => rfl
  | true => rcases isN_iff.1 hb with e | e; exact absurd e h; exact absurd e h2
theorem isT_no {k : Int} (h : k ≠ 1) (h2 : k ≠ 4) (h3 : k ≠ 6) (h4 : k ≠ 7) : isT k = false := by
  cases hb : isT k with
  | false => rfl
  | true => rcases isT_iff.1 hb with e | e | e | e; exact absurd e h; exact absurd e h2; exact absurd e h3; exact absurd e h4
theorem zs64_okV : zs64.all okV = true ∧ zs64.length = 64 := by decide
/-- A setting's line may be a line. -/
theorem val_okV {s : SetS} (h : chkS s = 0) (hp : s.p.length ≤ 32) : (valS s).all okV = true ∧ (valS s).length ≤ 64 := by
  obtain ⟨h1, h2, ht, hn, hpp, hk, h6, h7, hnn⟩ := chk_inv h
  unfold valS
  by_cases a : isN s.k = true
  · rw [if_pos a, itoa_nat (hnn a).1]
    have := dec_len (u := s.n.toNat) (by have := hnn a; omega)
    exact ⟨dec_okV _, by omega⟩
  rw [if_neg a]
  by_cases b : s.k = 3 ∨ s.k = 5 ∨ s.k = 9
  · rw [if_pos b]; decide
  rw [if_neg b]
  by_cases c : s.k = 10
  · rw [if_pos c]
    have := netT_okV hp
    exact ⟨this.1, by omega⟩
  rw [if_neg c]
  by_cases d : s.k = 6 ∧ s.t = []
  · rw [if_pos d]; exact ⟨zs64_okV.1, by rw [zs64_okV.2]; decide⟩
  rw [if_neg d]
  have hd : s.k = 1 ∨ s.k = 4 ∨ s.k = 6 ∨ s.k = 7 := by
    rw [isN_iff] at a
    omega
  rcases hd with e | e | e | e
  · have := hexC_okV (hk (.inl e)); exact ⟨this.1, by omega⟩
  · have := hexC_okV (hk (.inr e)); exact ⟨this.1, by omega⟩
  · rcases h6 e with k | ⟨_, k⟩
    · exact absurd ⟨e, k⟩ d
    · have := hexC_okV k; exact ⟨this.1, by omega⟩
  · have := endE_okV (h7 e); exact ⟨this.1, by omega⟩
theorem line_okL {s : SetS} (h : chkS s = 0) (hp : s.p.length ≤ 32) : lnC (wrd s.k.toNat) (valS s) = 0 := by
  obtain ⟨h1, h2, _⟩ := chk_inv h
  obtain ⟨_, w2, w3, w4⟩ := wrd_at h1 h2
  obtain ⟨v1, v2⟩ := val_okV h hp
  unfold lnC
  rw [if_neg (by omega), w2, v1]; rfl
theorem pathN_adr {p : List Bool} (h : p.length ≤ 32) : pathN (adrN p) p.length = p := by
  refine adrN_inj (by rw [pathN_len]) (by rw [pathN_len]; exact h) ?_
  rw [adrN_path (adrN_lt p) h, pcut_adr p h, List.take_length]
theorem slash_no {a : Nat} : (47 : UInt8) ∉ adrT a := by
  have h : ∀ u, (47 : UInt8) ∉ decDigits u := fun u => all_not (dec_all u) (by decide)
  unfold adrT
  rw [join_cons2, join_cons2, join_cons2, join_one]
  simp [h]
theorem net_back {p : List Bool} (h : p.length ≤ 32) : netR (netT p) = (p, 0) := by
  have b : bef 47 (netT p) = adrT (adrN p) := bef_app _ slash_no
  have a : aft 47 (netT p) = decDigits p.length := aft_app _ slash_no
  have r := adr_back (adrN p) (adrN_lt p)
  unfold netR
  rw [b, a, r, dec_val]
  have e : pcut (adrN p) p.length = adrN p := by rw [pcut_adr p h, List.take_length]
  rw [if_pos ⟨by unfold netT; simp, rfl, (sm_dec (by omega) (by omega)).1, e⟩]
  show (pathN (adrN p) p.length, (0 : Int)) = _
  rw [pathN_adr h]
theorem netR_len (s : List UInt8) : (netR s).1.length ≤ 32 := by
  unfold netR
  split
  · rename_i h
    have := (sm_ok h.2.2.1).2.2
    show (pathN _ _).length ≤ 32
    rw [pathN_len]; omega
  · decide
/-- Reading a setting's line gives the setting. -/
theorem read_line {s : SetS} (h : chkS s = 0) (hp : s.p.length ≤ 32) : readS (wrd s.k.toNat, valS s) = (s, 0) := by
  have hi := chk_inv h
  obtain ⟨h1, h2, ht, hn, hpp, hk, h6, h7, hnn⟩ := hi
  obtain ⟨w1, _⟩ := wrd_at h1 h2
  have key : rd0 (wrd s.k.toNat, valS s) = s := by
    unfold rd0
    simp only [w1]
    by_cases a : isN s.k = true
    · have a' := isN_iff.1 a
      rw [if_pos a']
      have e : valS s = decDigits s.n.toNat := by unfold valS; rw [if_pos a, itoa_nat (hnn a).1]
      have hb := hnn a
      rw [e, (sm_dec (u := s.n.toNat) (most := 65535) (by omega) (by omega)).1, (sm_dec (u := s.n.toNat) (most := 65535) (by omega) (by omega)).2, if_pos rfl]
      have e1 := ht (isT_no (by omega) (by omega) (by omega) (by omega))
      have e2 := hpp (by omega)
      obtain ⟨k, t, n, p⟩ := s
      have e3 : ((n.toNat : Nat) : Int) = n := by have : 0 ≤ n := hb.1; omega
      show SetS.mk k [] ((n.toNat : Nat) : Int) [] = _
      rw [e3]
      have e1 : t = [] := e1
      have e2 : p = [] := e2
      rw [e1, e2]
    have a' : ¬ (s.k = 2 ∨ s.k = 8) := fun k => a (isN_iff.2 k)
    rw [if_neg a']
    have hN : isN s.k = false := by cases hb : isN s.k with | false => rfl | true => exact absurd hb a
    have en := hn hN
    by_cases b : s.k = 3 ∨ s.k = 5 ∨ s.k = 9
    · rw [if_pos b]
      have e1 := ht (isT_no (by omega) (by omega) (by omega) (by omega))
      have e2 := hpp (by omega)
      obtain ⟨k, t, n, p⟩ := s
      have e1 : t = [] := e1
      have e2 : p = [] := e2
      have e3 : n = 0 := en
      rw [e1, e2, e3]
    rw [if_neg b]
    by_cases c : s.k = 10
    · rw [if_pos c]
      have e : valS s = netT s.p := by unfold valS; rw [if_neg a, if_neg b, if_pos c]
      have e1 := ht (isT_no (by omega) (by omega) (by omega) (by omega))
      rw [e, net_back hp]
      obtain ⟨k, t, n, p⟩ := s
      have e1 : t = [] := e1
      have e2 : k = 10 := c
      have e3 : n = 0 := en
      rw [e1, e2, e3]
    rw [if_neg c]
    have e2 := hpp c
    by_cases d : s.k = 6 ∧ s.t = []
    · have e : valS s = zs64 := by unfold valS; rw [if_neg a, if_neg b, if_neg c, if_pos d]
      rw [if_pos ⟨d.1, e⟩]
      obtain ⟨k, t, n, p⟩ := s
      have e1 : t = [] := d.2
      have e2 : p = [] := e2
      have e3 : n = 0 := en
      have e4 : k = 6 := d.1
      rw [e1, e2, e3, e4]
    have e : valS s = s.t := by unfold valS; rw [if_neg a, if_neg b, if_neg c, if_neg d]
    have nz : ¬ (s.k = 6 ∧ valS s = zs64) := fun k => by
      rw [e] at k
      rcases h6 k.1 with q | ⟨q, _⟩
      · exact d ⟨k.1, q⟩
      · exact q k.2
    rw [if_neg nz, e]
    obtain ⟨k, t, n, p⟩ := s
    have e2 : p = [] := e2
    have e3 : n = 0 := en
    rw [e2, e3]
  have ln : lineS s = ((wrd s.k.toNat, valS s), 0) := by unfold lineS; rw [if_pos h]
  unfold readS
  rw [key, ln]
  rw [if_neg (by show ¬ kindOf (wrd s.k.toNat) 10 = 0; rw [w1]; omega), if_pos ⟨rfl, rfl⟩]
theorem read_ok {l : LnP} (h : (readS l).2 = 0) : lineS (readS l).1 = (l, 0) ∧ chkS (readS l).1 = 0 := by
  unfold readS at h ⊢
  by_cases h1 : kindOf l.1 10 = 0
  · rw [if_pos h1] at h; cases h
  rw [if_neg h1] at h ⊢
  by_cases h2 : (lineS (rd0 l)).2 = 0 ∧ (lineS (rd0 l)).1 = l
  · rw [if_pos h2]
    refine ⟨Prod.ext h2.2 h2.1, ?_⟩
    have := h2.1
    unfold lineS at this
    split at this
    · assumption
    · exact this
  · rw [if_neg h2] at h; cases h
end Go.Proofs.YtcebndkiagbddaaDoor
