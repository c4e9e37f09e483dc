/- The condition on the world and a call's own blocks (Inv) is kept: by a new block, by a store, by an append, by sharing a block. It names no function of the program. -/
import Derived.Test.YtnopdnclefopbaaAbs
import Derived.Deep.MidRow
namespace Go.Proofs.Ytnopdnclefopbaa
open Go.RowKit
set_option linter.unusedVariables false
set_option linter.unusedSimpArgs false

def OB.has (r : Nat) : OB → Bool
  | .box cells _ => hasL r cells
  | _ => false
def hHas (r : Nat) : List (Nat × OB) → Bool
  | [] => false
  | p :: h => p.2.has r || hHas r h
def sHas (r : Nat) : List (Nat × AV) → Bool
  | [] => false
  | p :: h => p.2.has r || sHas r h
theorem look_hHas {r q : Nat} : ∀ {h : List (Nat × OB)}, hHas r h = false → (look .dead h q).has r = false
  | [], _ => rfl
  | (k, x) :: h, hh => by
    simp only [hHas, Bool.or_eq_false_iff] at hh
    rw [look_cons]
    split
    · exact hh.1
    · exact look_hHas hh.2
theorem look_sHas {r q : Nat} : ∀ {h : List (Nat × AV)}, sHas r h = false → (look .any h q).has r = false
  | [], _ => rfl
  | (k, x) :: h, hh => by
    simp only [sHas, Bool.or_eq_false_iff] at hh
    rw [look_cons]
    split
    · exact hh.1
    · exact look_sHas hh.2
/-- The name r is free: no block of that name, nobody speaks of it. -/
def AS.free (st : AS) (kp : List Nat) (r : Nat) : Bool := !(look OB.dead st.heap r).alive && !hHas r st.heap && !sHas r st.slots && !kp.contains r

section
variable {E : Env} {kp : List Nat} {φ φ' : Ghost} {Pub Pub' : Nat → Nat → Prop} {h : List (Nat × OB)} {w w' : World}

theorem Hp_keep (H : Adv w Pub w' Pub') {r : Nat} {ob : OB} (hb : ∀ b c, φ r = some (b, c) → w'.heap[b]? = w.heap[b]? ∧ ∀ i, Pub' b i → Pub b i) (hr : φ' r = φ r)
    (hn : ∀ q, ob.has q = true → φ' q = φ q) (k : Hp w Pub φ r ob) : Hp w' Pub' φ' r ob := by
  cases ob with
  | dead => exact trivial
  | box cells t =>
    obtain ⟨b, cur, h1, h2, h3, h4, h5⟩ := k
    obtain ⟨hb1, hb2⟩ := hb b 1 h1
    exact ⟨b, cur, by rw [hr]; exact h1, by rw [hb1]; exact h2, RAs_mono H cells _ (fun q hq => hn q hq) h3, h4, fun i hi => h5 i (hb2 i hi)⟩
  | row cells t sz pub =>
    rcases k with ⟨k1, k2⟩ | ⟨b, c, cur, fr, h1, ⟨h2, h2'⟩, h3, h4, h5, h6, h7, h8⟩
    · exact .inl ⟨by rw [hr]; exact k1, k2⟩
    · obtain ⟨hb1, hb2⟩ := hb b c h1
      exact .inr ⟨b, c, cur, fr, by rw [hr]; exact h1, ⟨by rw [hb1]; exact h2, h2'⟩, h3, h4, h5, RPs_mono H _ _ h6, h7, fun i hi => h8 i (hb2 i hi)⟩

theorem Inv.lt (I : Inv E kp φ Pub h w) {r b c : Nat} (ha : (look .dead h r).alive = true) (hr : φ r = some (b, c)) : b < w.heap.size := by
  have := I.own r
  cases hl : look .dead h r with
  | dead => rw [hl] at ha; cases ha
  | box cells t =>
    rw [hl] at this
    obtain ⟨b', cur, h1, h2, _⟩ := this
    rw [hr] at h1; cases h1
    exact (Array.getElem?_eq_some_iff.1 h2).1
  | row cells t sz pub =>
    rw [hl] at this
    rcases this with ⟨k1, k2⟩ | ⟨b', c', cur, fr, h1, ⟨h2, _⟩, _⟩
    · rw [hr] at k1; cases k1
    · rw [hr] at h1; cases h1
      exact (Array.getElem?_eq_some_iff.1 h2).1

theorem free_split {st : AS} {r : Nat} (hf : st.free kp r = true) : (look OB.dead st.heap r).alive = false ∧ hHas r st.heap = false ∧ sHas r st.slots = false ∧ r ∉ kp := by
  unfold AS.free at hf
  simp only [Bool.and_eq_true, Bool.not_eq_true'] at hf
  obtain ⟨⟨⟨h1, h2⟩, h3⟩, h4⟩ := hf
  exact ⟨h1, h2, h3, fun hm => by rw [List.contains_iff_mem.2 hm] at h4; cases h4⟩

theorem adv_alloc (I : Inv E kp φ Pub h w) (o : Obj) : Adv w Pub (w.alloc o) Pub := fun b i hp =>
  ⟨hp, World.cell?_alloc_lt w o ⟨b, i, none⟩ (I.publ b i hp)⟩


theorem alive_of_ne {ob : OB} (h : ob ≠ .dead) : ob.alive = true := by cases ob <;> first | rfl | exact absurd rfl h

theorem Inv.next (I : Inv E kp φ Pub h w) {h' : List (Nat × OB)} (hos : w'.os = w.os) (htape : w'.tape = w.tape) (hout : w'.output = w.output) (hsz : w.heap.size ≤ w'.heap.size)
    (hblk : ∀ b, b < E.w0.heap.size → ¬ E.A b → w'.heap[b]? = w.heap[b]?) (H : Adv w Pub w' Pub')
    (hpubs : ∀ b i, Pub' b i → Pub b i ∨ E.w0.heap.size ≤ b ∨ E.A b) (hpl : ∀ b i, Pub' b i → b < w'.heap.size)
    (own : ∀ r, (look OB.dead h' r).alive = true → Hp w' Pub' φ' r (look .dead h' r))
    (mine : ∀ r b c, (look OB.dead h' r).alive = true → φ' r = some (b, c) → E.w0.heap.size ≤ b ∨ E.A b)
    (inj : ∀ r r' b c c', (look OB.dead h' r).alive = true → (look OB.dead h' r').alive = true → φ' r = some (b, c) → φ' r' = some (b, c') → r = r')
    (kept : ∀ r, r ∈ kp → φ' r = φ r) : Inv E kp φ' Pub' h' w' := by
  refine ⟨hos.trans I.os, htape.trans I.tape, hout.trans I.output, Nat.le_trans I.size hsz, fun b hb hA => (hblk b hb hA).trans (I.block b hb hA), fun r => ?_, mine, inj,
    fun b i hp => (H b i (I.pub0 b i hp)).1, fun b i hp => ?_, hpl, fun b i hp => ((H b i (I.pub0 b i hp)).2).trans (I.same b i hp), fun r hr => (kept r hr).trans (I.kept r hr)⟩
  · cases hl : look OB.dead h' r with
    | dead => exact trivial
    | box cells t => have := own r (by rw [hl]; rfl); rw [hl] at this; exact this
    | row cells t sz pub => have := own r (by rw [hl]; rfl); rw [hl] at this; exact this
  · rcases hpubs b i hp with h1 | h1
    · exact I.pubs b i h1
    · exact .inr h1

/-- A new block. -/
theorem Inv.alloc (I : Inv E kp φ Pub h w) {r : Nat} (hl : (look OB.dead h r).alive = false) (hh : hHas r h = false) (hk : r ∉ kp) (o : Obj) (c : Nat) {ob : OB}
    (hob : Hp (w.alloc o) Pub (fun q => if q = r then some (w.heap.size, c) else φ q) r ob) :
    Inv E kp (fun q => if q = r then some (w.heap.size, c) else φ q) Pub ((r, ob) :: h) (w.alloc o) := by
  have H := adv_alloc I o
  have hsz : (w.alloc o).heap.size = w.heap.size + 1 := by simp
  have hs := I.size
  refine I.next rfl rfl rfl (by omega) (fun b hb hA => Below.heap_alloc _ _ _ (by omega)) H (fun b i hp => .inl hp) (fun b i hp => by have := I.publ b i hp; omega) (fun q ha => ?_) (fun q b c' ha hq => ?_) (fun q q' b c1 c2 ha ha' hq hq' => ?_) (fun q hq => ?_)
  · rw [look_cons] at ha ⊢
    split
    · next e => subst e; exact hob
    · next e =>
      rw [if_neg e] at ha
      refine Hp_keep H (fun b c' hb => ⟨Below.heap_alloc _ _ _ (I.lt ha hb), fun i hi => hi⟩) (if_neg (Ne.symm e)) (fun x hx => ?_) (I.own q)
      have : x ≠ r := fun e2 => by subst e2; rw [look_hHas hh] at hx; cases hx
      exact if_neg this
  · rw [look_cons] at ha
    by_cases e : q = r
    · rw [if_pos e] at hq; cases hq; exact .inl hs
    · rw [if_neg e] at hq; rw [if_neg (Ne.symm e)] at ha; exact I.mine q b c' ha hq
  · rw [look_cons] at ha ha'
    by_cases e : q = r <;> by_cases e' : q' = r
    · rw [e, e']
    · rw [if_pos e] at hq; rw [if_neg e'] at hq'; rw [if_neg (Ne.symm e')] at ha'
      cases hq; have := I.lt ha' hq'; omega
    · rw [if_pos e'] at hq'; rw [if_neg e] at hq; rw [if_neg (Ne.symm e)] at ha
      cases hq'; have := I.lt ha hq; omega
    · rw [if_neg e] at hq; rw [if_neg e'] at hq'; rw [if_neg (Ne.symm e)] at ha; rw [if_neg (Ne.symm e')] at ha'
      exact I.inj q q' b c1 c2 ha ha' hq hq'
  · exact if_neg (fun e => by subst e; exact hk hq)

/-- Behind a new block whatever was said of values without that name holds. -/
theorem RA_alloc (I : Inv E kp φ Pub h w) {r : Nat} {x : AV} {u : Value} {o : Obj} (hx : x.has r = false) (c : Nat) (k : RA w Pub φ x u) : RA (w.alloc o) Pub (fun q => if q = r then some (w.heap.size, c) else φ q) x u :=
  RA_mono (adv_alloc I o) x u (fun q hq => if_neg (fun e => by subst e; rw [hx] at hq; cases hq)) k
theorem RAs_alloc (I : Inv E kp φ Pub h w) {r : Nat} {l : List AV} {us : List Value} {o : Obj} (hx : hasL r l = false) (c : Nat) (k : RAs w Pub φ l us) : RAs (w.alloc o) Pub (fun q => if q = r then some (w.heap.size, c) else φ q) l us :=
  RAs_mono (adv_alloc I o) l us (fun q hq => if_neg (fun e => by subst e; rw [hx] at hq; cases hq)) k

/-! ### Stores -/
theorem heap_setCells_other (b : Nat) : ∀ (xs : List Value) (o : Nat) (w : World) (k : Nat), k ≠ b → (w.setCells b o xs).heap[k]? = w.heap[k]?
  | [], o, w, k, _ => rfl
  | x :: xs, o, w, k, hk => by
    rw [World.setCells, heap_setCells_other b xs (o + 1) _ k hk]
    exact heap_setCell_other w ⟨b, o, none⟩ k x hk
theorem heap_setCell_fr {w : World} {b i : Nat} {cs : Array Value} {t : TypeId} {fr : Nat × Nat} (hb : w.heap[b]? = some (.cells cs t fr)) (v : Value) :
    (w.setCell ⟨b, i, none⟩ v).heap[b]? = some (.cells (cs.setIfInBounds i v) t fr) := by
  simp [World.setCell, Array.getElem?_modify, hb]
theorem heap_setCells_same (b : Nat) : ∀ (xs : List Value) (o : Nat) (w : World) (cur : Array Value) (t : TypeId) (fr : Nat × Nat), w.heap[b]? = some (.cells cur t fr) →
    ∃ cur' : Array Value, (w.setCells b o xs).heap[b]? = some (.cells cur' t fr) ∧ cur'.size = cur.size ∧ cur'.toList = (xs.zipIdx o).foldl (fun l p => l.set p.2 p.1) cur.toList
  | [], o, w, cur, t, fr, hw => ⟨cur, hw, rfl, rfl⟩
  | x :: xs, o, w, cur, t, fr, hw => by
    obtain ⟨cur', h1, h2, h3⟩ := heap_setCells_same b xs (o + 1) (w.setCell ⟨b, o, none⟩ x) (cur.setIfInBounds o x) t fr (heap_setCell_fr hw x)
    exact ⟨cur', h1, by simpa using h2, by rw [h3]; simp⟩
theorem size_setCells (b : Nat) : ∀ (xs : List Value) (o : Nat) (w : World), (w.setCells b o xs).heap.size = w.heap.size
  | [], o, w => rfl
  | x :: xs, o, w => by rw [World.setCells, size_setCells b xs]; simp [World.setCell]
theorem streams_setCells (b : Nat) : ∀ (xs : List Value) (o : Nat) (w : World), (w.setCells b o xs).os = w.os ∧ (w.setCells b o xs).tape = w.tape ∧ (w.setCells b o xs).output = w.output
  | [], o, w => ⟨rfl, rfl, rfl⟩
  | x :: xs, o, w => by rw [World.setCells]; exact streams_setCells b xs (o + 1) _
theorem cell_setCells_other (b : Nat) (xs : List Value) (o : Nat) (w : World) (k i : Nat) (hk : k ≠ b) : (w.setCells b o xs).cell? ⟨k, i, none⟩ = w.cell? ⟨k, i, none⟩ :=
  World.cell?_setCells_out b xs o w _ (fun h1 _ => absurd h1 hk)

/-- A list with some elements put into it, from o on. -/
def putL {α : Type} : List α → Nat → List α → List α
  | l, _, [] => l
  | l, o, x :: xs => putL (l.set o x) (o + 1) xs
theorem putL_foldl {α : Type} : ∀ (xs : List α) (o : Nat) (l : List α), (xs.zipIdx o).foldl (fun l p => l.set p.2 p.1) l = putL l o xs
  | [], o, l => rfl
  | x :: xs, o, l => by simp only [List.zipIdx_cons, List.foldl_cons, putL]; exact putL_foldl xs (o + 1) _
theorem putL_length {α : Type} : ∀ (xs : List α) (o : Nat) (l : List α), (putL l o xs).length = l.length
  | [], o, l => rfl
  | x :: xs, o, l => by simp [putL, putL_length xs]
theorem putL_mem {α : Type} {u : α} : ∀ (xs : List α) (o : Nat) (l : List α), u ∈ putL l o xs → u ∈ l ∨ u ∈ xs
  | [], o, l, h => .inl h
  | x :: xs, o, l, h => by
    rcases putL_mem xs (o + 1) (l.set o x) h with h | h
    · rcases List.mem_or_eq_of_mem_set h with h | h
      · exact .inl h
      · exact .inr (by rw [h]; simp)
    · exact .inr (List.mem_cons_of_mem _ h)
theorem putL_take {α : Type} : ∀ (xs : List α) (o k : Nat) (l : List α), o + xs.length ≤ k → (putL l o xs).take k = putL (l.take k) o xs
  | [], o, k, l, h => rfl
  | x :: xs, o, k, l, h => by
    simp only [List.length_cons] at h
    simp only [putL]
    rw [putL_take xs (o + 1) k _ (by omega), List.take_set]
theorem RAs_putL : ∀ {xs : List AV} {us : List Value} (o : Nat) {l : List AV} {vs : List Value}, RAs w Pub φ l vs → RAs w Pub φ xs us → RAs w Pub φ (putL l o xs) (putL vs o us)
  | [], us, o, l, vs, h1, h2 => by unfold RAs at h2; subst h2; exact h1
  | x :: xs, us, o, l, vs, h1, h2 => by
    unfold RAs at h2
    obtain ⟨u, us', rfl, h3, h4⟩ := h2
    exact RAs_putL (o + 1) (RAs_set o h1 h3) h4
theorem RPs_putL : ∀ {xs : List PV} {us : List Value} (o : Nat) {l : List PV} {vs : List Value}, RPs w Pub l vs → RPs w Pub xs us → RPs w Pub (putL l o xs) (putL vs o us)
  | [], us, o, l, vs, h1, h2 => by unfold RPs at h2; subst h2; exact h1
  | x :: xs, us, o, l, vs, h1, h2 => by
    unfold RPs at h2
    obtain ⟨u, us', rfl, h3, h4⟩ := h2
    exact RPs_putL (o + 1) (RPs_set o h1 h3) h4

theorem adv_setCells {b o : Nat} {us : List Value} (hp : ∀ i, i < us.length → ¬ Pub b (o + i)) : Adv w Pub (w.setCells b o us) Pub := fun k i hk =>
  ⟨hk, World.cell?_setCells_out b us o w ⟨k, i, none⟩ (fun h1 _ => by
    simp only at h1 ⊢
    subst h1
    rcases Nat.lt_or_ge i o with h2 | h2
    · exact .inl h2
    · rcases Nat.lt_or_ge i (o + us.length) with h3 | h3
      · exact absurd hk (by have := hp (i - o) (by omega); rwa [show o + (i - o) = i from by omega] at this)
      · exact .inr h3)⟩

/-- A store into a block of the call's own: whatever stands in it behind. -/
theorem Inv.store (I : Inv E kp φ Pub h w) {r b c o : Nat} {us : List Value} (ha : (look OB.dead h r).alive = true) (hr : φ r = some (b, c)) (hp : ∀ i, i < us.length → ¬ Pub b (o + i)) {ob : OB}
    (hal : ob.alive = true) (hob : Hp (w.setCells b o us) Pub φ r ob) : Inv E kp φ Pub ((r, ob) :: h) (w.setCells b o us) := by
  have H := adv_setCells (w := w) hp
  obtain ⟨s1, s2, s3⟩ := streams_setCells b us o w
  have hm := I.mine r b c ha hr
  refine I.next s1 s2 s3 (by rw [size_setCells]; exact Nat.le_refl _) (fun k hk hA => heap_setCells_other b us o w k (fun e => by
      subst e
      rcases hm with hm | hm
      · omega
      · exact hA hm)) H (fun _ _ hp => .inl hp) (fun k i hk => by rw [size_setCells]; exact I.publ k i hk) (fun q hq => ?_) (fun q k c' hq hk => ?_) (fun q q' k c1 c2 hq hq' hk hk' => ?_) (fun _ _ => rfl)
  · rw [look_cons] at hq ⊢
    split
    · next e => subst e; exact hob
    · next e =>
      rw [if_neg e] at hq
      refine Hp_keep H (fun k c' hk => ⟨heap_setCells_other b us o w k (fun e2 => ?_), fun i hi => hi⟩) rfl (fun _ _ => rfl) (I.own q)
      subst e2
      exact e (I.inj r q _ _ _ ha hq hr hk)
  · rw [look_cons] at hq
    by_cases e : r = q
    · subst e; exact I.mine r k c' ha hk
    · rw [if_neg e] at hq; exact I.mine q k c' hq hk
  · have hx : ∀ z, (look OB.dead ((r, ob) :: h) z).alive = true → (look OB.dead h z).alive = true := fun z hz => by
      rw [look_cons] at hz
      by_cases e : r = z
      · subst e; exact ha
      · rw [if_neg e] at hz; exact hz
    exact I.inj q q' k c1 c2 (hx q hq) (hx q' hq') hk hk'

/-- Some values into a variable's cells. -/
theorem Inv.storeBox (I : Inv E kp φ Pub h w) {r b o : Nat} {t : TypeId} {cells xs : List AV} {us : List Value} (hl : look OB.dead h r = .box cells t) (hr : φ r = some (b, 1)) (hx : RAs w Pub φ xs us) (h1 : ∀ u ∈ us, u.oneCell' = true) :
    Inv E kp φ Pub ((r, .box (putL cells o xs) t) :: h) (w.setCells b o us) ∧ Adv w Pub (w.setCells b o us) Pub := by
  have k := I.own r
  rw [hl] at k
  obtain ⟨b', cur, k1, k2, k3, k4, k5⟩ := k
  rw [hr] at k1; cases k1
  have H : Adv w Pub (w.setCells b o us) Pub := adv_setCells (fun i _ => k5 _)
  obtain ⟨cur', c1, c2, c3⟩ := heap_setCells_same b us o w cur t _ k2
  rw [putL_foldl] at c3
  refine ⟨I.store (by rw [hl]; rfl) hr (fun i _ => k5 _) rfl ⟨b, cur', hr, c1, ?_, ?_, k5⟩, H⟩
  · rw [c3]; exact RAs_mono H _ _ (fun _ _ => rfl) (RAs_putL o k3 hx)
  · intro u hu
    rw [c3] at hu
    rcases putL_mem us o cur.toList hu with hu | hu
    · exact k4 u hu
    · exact h1 u hu

/-- Some values into a row's cells, behind those that are shared. -/
theorem Inv.storeRow (I : Inv E kp φ Pub h w) {r b c o sz pub : Nat} {t : TypeId} {cells xs : List PV} {us : List Value} (hl : look OB.dead h r = .row cells t sz pub) (hr : φ r = some (b, c)) (hx : RPs w Pub xs us) (h1 : ∀ u ∈ us, u.oneCell' = true)
    (hpub : pub ≤ o) (hin : o + xs.length ≤ cells.length) :
    Inv E kp φ Pub ((r, .row (putL cells o xs) t sz pub) :: h) (w.setCells b o us) ∧ Adv w Pub (w.setCells b o us) Pub := by
  have k := I.own r
  rw [hl] at k
  rcases k with ⟨k0, _⟩ | ⟨b', c', cur, fr, k1, ⟨k2, k2'⟩, k3, k4, k5, k6, k7, k8⟩
  · rw [hr] at k0; cases k0
  rw [hr] at k1; cases k1
  have hlen := RPs_length hx
  have hnp : ∀ i, i < us.length → ¬ Pub b (o + i) := fun i _ hp => by have := (k8 _ hp).1; omega
  have H : Adv w Pub (w.setCells b o us) Pub := adv_setCells hnp
  obtain ⟨cur', c1, c2, c3⟩ := heap_setCells_same b us o w cur t _ k2
  rw [putL_foldl] at c3
  refine ⟨I.store (by rw [hl]; rfl) hr hnp rfl (.inr ⟨b, c, cur', fr, hr, ⟨c1, by rw [c2]; exact k2'⟩, k3, by rw [c2]; exact k4, by rw [putL_length, c2]; exact k5, ?_, ?_, fun i hi => by rw [putL_length]; exact k8 i hi⟩), H⟩
  · rw [c3, putL_length, putL_take _ _ _ _ (by omega)]; exact RPs_mono H _ _ (RPs_putL o k6 hx)
  · intro u hu
    rw [c3, putL_length, putL_take _ _ _ _ (by omega)] at hu
    rcases putL_mem us o _ hu with hu | hu
    · exact k7 u hu
    · exact h1 u hu
end
end Go.Proofs.Ytnopdnclefopbaa
