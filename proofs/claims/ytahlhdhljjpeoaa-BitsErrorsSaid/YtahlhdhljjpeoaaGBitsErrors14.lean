/- Texts joined: BitsR. -/
import Derived.Test.YtahlhdhljjpeoaaGBitsErrors7
import Derived.Test.YtahlhdhljjpeoaaGBitsErrors13
/- Holes and what is found (plain). -/
namespace Go.Proofs.Ytahlhdhljjpeoaa
open Go.RowKit
set_option maxHeartbeats 1000000
set_option maxRecDepth 100000
set_option linter.unusedVariables false
set_option linter.unusedSimpArgs false

/-- A part that is free. -/
def freeAt (u : List Bool) (h : Nat × Nat) : Prop := 0 < h.2 ∧ h.1 + h.2 ≤ u.length ∧ ∀ j, h.1 ≤ j → j < h.1 + h.2 → u.getD j true = false
theorem drop_head {u v : List Bool} {n : Nat} {b : Bool} (h : u.drop n = b :: v) : n < u.length ∧ u.getD n true = b ∧ u.drop (n + 1) = v := by
  have hlt : n < u.length := by
    rcases Nat.lt_or_ge n u.length with h1 | h1
    · exact h1
    · rw [List.drop_of_length_le h1] at h; cases h
  rw [List.drop_eq_getElem_cons hlt] at h
  simp only [List.cons.injEq] at h
  exact ⟨hlt, by simp [List.getD_eq_getElem?_getD, hlt, h.1], h.2⟩
theorem holes_free' (u : List Bool) : ∀ (v : List Bool) (n c : Nat), u.drop n = v → n ≤ u.length → c ≤ n → (∀ j, n - c ≤ j → j < n → u.getD j true = false) → ∀ h ∈ holesG n c v, freeAt u h
  | [], n, c, hv, hn, hc, hf, h, hm => by
    unfold holesG at hm
    split at hm
    · cases hm
    · obtain rfl := List.mem_singleton.1 hm
      exact ⟨by simp only; omega, by simp only; omega, fun j h1 h2 => hf j h1 (by simp only at h2; omega)⟩
  | false :: v, n, c, hv, hn, hc, hf, h, hm => by
    obtain ⟨h1, h2, h3⟩ := drop_head hv
    refine holes_free' u v (n + 1) (c + 1) h3 h1 (by omega) (fun j h4 h5 => ?_) h hm
    rcases Nat.lt_or_ge j n with h6 | h6
    · exact hf j (by omega) h6
    · rw [show j = n by omega, h2]
  | true :: v, n, c, hv, hn, hc, hf, h, hm => by
    obtain ⟨h1, h2, h3⟩ := drop_head hv
    have hr := holes_free' u v (n + 1) 0 h3 h1 (by omega) (fun j h4 h5 => by omega)
    unfold holesG at hm
    split at hm
    · exact hr h hm
    · rcases List.mem_cons.1 hm with rfl | hm
      · exact ⟨by simp only; omega, by simp only; omega, fun j h1 h2 => hf j h1 (by simp only at h2; omega)⟩
      · exact hr h hm
theorem holes_ok {u : List Bool} {h : Nat × Nat} (hm : h ∈ holesG 0 0 u) : freeAt u h :=
  holes_free' u u 0 0 rfl (Nat.zero_le _) (Nat.le_refl _) (fun j h1 h2 => by omega) h hm
/-- Where a block is free there is a hole that holds it, and as many as stand side by side. -/
theorem holes_has (u : List Bool) : ∀ (v : List Bool) (n c : Nat), u.drop n = v → c ≤ n → (∀ j, n - c ≤ j → j < n → u.getD j true = false) →
    ∀ (s k : Nat), 0 < k → n - c ≤ s → s + k ≤ u.length → n ≤ s + k → (∀ j, s ≤ j → j < s + k → u.getD j true = false) → ∃ h ∈ holesG n c v, k ≤ h.2
  | [], n, c, hv, hc, hf, s, k, hk, h1, h2, h3, h4 => by
    have hn : u.length ≤ n := by
      rcases Nat.lt_or_ge n u.length with h | h
      · rw [List.drop_eq_getElem_cons h] at hv; cases hv
      · exact h
    unfold holesG
    rw [if_neg (by omega)]
    exact ⟨_, List.mem_singleton.2 rfl, by simp only; omega⟩
  | false :: v, n, c, hv, hc, hf, s, k, hk, h1, h2, h3, h4 => by
    obtain ⟨g1, g2, g3⟩ := drop_head hv
    have hf' : ∀ j, n + 1 - (c + 1) ≤ j → j < n + 1 → u.getD j true = false := fun j h4 h5 => by
      rcases Nat.lt_or_ge j n with h6 | h6
      · exact hf j (by omega) h6
      · rw [show j = n by omega, g2]
    unfold holesG
    by_cases e : n + 1 ≤ s + k
    · exact holes_has u v (n + 1) (c + 1) g3 (by omega) hf' s k hk (by omega) h2 e h4
    · -- all of it lies ahead: the run goes on
      obtain ⟨h, hm, hh⟩ := holes_has u v (n + 1) (c + 1) g3 (by omega) hf' s (k + 1) (by omega) (by omega) (by omega) (by omega) (fun j h5 h6 => by
        rcases Nat.lt_or_ge j (s + k) with h7 | h7
        · exact h4 j h5 h7
        · rw [show j = n by omega, g2])
      exact ⟨h, hm, by omega⟩
  | true :: v, n, c, hv, hc, hf, s, k, hk, h1, h2, h3, h4 => by
    obtain ⟨g1, g2, g3⟩ := drop_head hv
    unfold holesG
    by_cases e : s + k = n
    · rw [if_neg (by omega)]
      exact ⟨_, List.mem_cons_self, by simp only; omega⟩
    · have hs : n + 1 ≤ s := by
        rcases Nat.lt_or_ge n s with h5 | h5
        · exact h5
        · have := h4 n h5 (by omega)
          rw [g2] at this; cases this
      obtain ⟨h, hm, hh⟩ := holes_has u v (n + 1) 0 g3 (by omega) (fun j h4 h5 => by omega) s k hk (by omega) h2 (by omega) h4
      split
      · exact ⟨h, hm, hh⟩
      · exact ⟨h, List.mem_cons_of_mem _ hm, hh⟩
theorem hole_of_free {u : List Bool} {s k : Nat} (hk : 0 < k) (h2 : s + k ≤ u.length) (h4 : ∀ j, s ≤ j → j < s + k → u.getD j true = false) : ∃ h ∈ holesG 0 0 u, k ≤ h.2 :=
  holes_has u u 0 0 rfl (Nat.le_refl _) (fun j h1 h2 => by omega) s k hk (Nat.zero_le _) h2 (Nat.zero_le _) h4
theorem bestF_inv (n : Nat) (hn : 1 ≤ n) : ∀ (l : List (Nat × Nat)), (∀ h ∈ l, 0 < h.2) →
    ((bestF n l).1.2 = 0 ∧ (∀ h ∈ l, h.2 < n) ∨ ((bestF n l).1 ∈ l ∧ n ≤ (bestF n l).1.2)) ∧ ((bestF n l).2.2 = 0 ∧ l = [] ∨ ((bestF n l).2 ∈ l ∧ ∀ h ∈ l, h.2 ≤ (bestF n l).2.2)) := by
  intro l hl
  induction hrev : l.reverse generalizing l with
  | nil =>
    have : l = [] := by simpa using hrev
    subst this
    exact ⟨.inl ⟨rfl, by simp⟩, .inl ⟨rfl, rfl⟩⟩
  | cons x r ih =>
    have hl2 : l = r.reverse ++ [x] := by
      have := congrArg List.reverse hrev
      simpa using this
    subst hl2
    obtain ⟨i1, i2⟩ := ih r.reverse (fun h hm => hl h (List.mem_append_left _ hm)) (by simp)
    rw [bestF_snoc]
    have hx := hl x (by simp)
    generalize bestF n r.reverse = b at *
    constructor
    · unfold bestS
      simp only
      by_cases c : n ≤ x.2 ∧ (b.1.2 = 0 ∨ x.2 < b.1.2)
      · rw [if_pos c]
        exact .inr ⟨by simp, c.1⟩
      · rw [if_neg c]
        rcases i1 with ⟨j1, j2⟩ | ⟨j1, j2⟩
        · refine .inl ⟨j1, fun h hm => ?_⟩
          rcases List.mem_append.1 hm with hm | hm
          · exact j2 h hm
          · obtain rfl := List.mem_singleton.1 hm
            have : ¬ n ≤ h.2 := fun e => c ⟨e, .inl j1⟩
            omega
        · exact .inr ⟨List.mem_append_left _ j1, j2⟩
    · unfold bestS
      simp only
      by_cases c : b.2.2 < x.2
      · rw [if_pos c]
        refine .inr ⟨by simp, fun h hm => ?_⟩
        rcases List.mem_append.1 hm with hm | hm
        · rcases i2 with ⟨_, j2⟩ | ⟨_, j2⟩
          · rw [j2] at hm; cases hm
          · have := j2 h hm; omega
        · rw [List.mem_singleton.1 hm]; exact Nat.le_refl _
      · rw [if_neg c]
        rcases i2 with ⟨j1, j2⟩ | ⟨j1, j2⟩
        · omega
        · refine .inr ⟨List.mem_append_left _ j1, fun h hm => ?_⟩
          rcases List.mem_append.1 hm with hm | hm
          · exact j2 h hm
          · rw [List.mem_singleton.1 hm]; omega
/-- What best says. -/
theorem best_is (u : List Bool) (n : Nat) (hn : 1 ≤ n) :
    ((bestP u n).2 = 0 ∧ holesG 0 0 u = []) ∨ (freeAt u (bestP u n) ∧ (bestP u n).2 ≤ n ∧ ((∃ h ∈ holesG 0 0 u, n ≤ h.2) → (bestP u n).2 = n)) := by
  obtain ⟨i1, i2⟩ := bestF_inv n hn (holesG 0 0 u) (fun h hm => (holes_ok hm).1)
  unfold bestP
  by_cases c : 0 < (bestF n (holesG 0 0 u)).1.2
  · rw [if_pos c]
    rcases i1 with ⟨j1, _⟩ | ⟨j1, j2⟩
    · omega
    · obtain ⟨a, b, d⟩ := holes_ok j1
      exact .inr ⟨⟨by simp only; omega, by simp only; omega, fun j h1 h2 => d j h1 (by simp only at h2; omega)⟩, Nat.le_refl _, fun _ => rfl⟩
  · rw [if_neg c]
    rcases i2 with ⟨j1, j2⟩ | ⟨j1, j2⟩
    · exact .inl ⟨j1, j2⟩
    · rcases i1 with ⟨k1, k2⟩ | ⟨k1, k2⟩
      · refine .inr ⟨holes_ok j1, Nat.le_of_lt (k2 _ j1), fun ⟨h, hm, hh⟩ => ?_⟩
        have := k2 h hm
        omega
      · omega
/-- What is found: so many, at most f parts. -/
def allocGo : Nat → List Bool → Nat → List (Nat × Nat) → Option (List Bool × List (Nat × Nat))
  | 0, u, _, out => some (u, out)
  | f + 1, u, n, out => if n = 0 then some (u, out) else if (bestP u n).2 = 0 then none else allocGo f (setU u (bestP u n).1 (bestP u n).2 true) (n - (bestP u n).2) (out ++ [bestP u n])
/-- Parts that were free, one behind the other. -/
def Takes : List Bool → List (Nat × Nat) → List Bool → Prop
  | u, [], u' => u = u'
  | u, x :: xs, u' => freeAt u x ∧ Takes (setU u x.1 x.2 true) xs u'
def sumC (l : List (Nat × Nat)) : Nat := (l.map (·.2)).sum
theorem allocGo_zero (f : Nat) (u : List Bool) (out : List (Nat × Nat)) : allocGo f u 0 out = some (u, out) := by cases f <;> rfl
theorem allocGo_some : ∀ (f : Nat) (u : List Bool) (n : Nat) (out : List (Nat × Nat)) (u' : List Bool) (o' : List (Nat × Nat)), n ≤ f → allocGo f u n out = some (u', o') →
    ∃ new, o' = out ++ new ∧ Takes u new u' ∧ sumC new = n ∧ ((∃ h ∈ holesG 0 0 u, n ≤ h.2) → new.length ≤ 1)
  | 0, u, n, out, u', o', hf, h => by
    simp only [allocGo, Option.some.injEq, Prod.mk.injEq] at h
    obtain ⟨rfl, rfl⟩ := h
    exact ⟨[], by simp, rfl, by simp [sumC]; omega, fun _ => by simp⟩
  | f + 1, u, n, out, u', o', hf, h => by
    unfold allocGo at h
    by_cases c : n = 0
    · rw [if_pos c] at h
      simp only [Option.some.injEq, Prod.mk.injEq] at h
      obtain ⟨rfl, rfl⟩ := h
      exact ⟨[], by simp, rfl, by simp [sumC]; omega, fun _ => by simp⟩
    · rw [if_neg c] at h
      by_cases c2 : (bestP u n).2 = 0
      · rw [if_pos c2] at h; cases h
      · rw [if_neg c2] at h
        rcases best_is u n (by omega) with ⟨h0, _⟩ | ⟨b1, b2, b3⟩
        · exact absurd h0 c2
        obtain ⟨new, e1, e2, e3, _⟩ := allocGo_some f _ _ _ _ _ (by omega) h
        refine ⟨bestP u n :: new, by rw [e1]; simp, ⟨b1, e2⟩, by simp only [sumC, List.map_cons, List.sum_cons] at e3 ⊢; omega, fun hx => ?_⟩
        have hb := b3 hx
        rw [hb, Nat.sub_self, allocGo_zero] at h
        simp only [Option.some.injEq, Prod.mk.injEq] at h
        rw [e1] at h
        have := h.2
        simp only [List.append_assoc] at this
        have h3 := List.append_cancel_left this
        have h4 : new = [] := by simpa using h3.symm
        rw [h4]
        simp
/-- How many are free. -/
def freeC (u : List Bool) : Nat := u.count false
theorem count_split (u : List Bool) (n : Nat) : u.count false = (u.take n).count false + (u.drop n).count false := by
  rw [← List.count_append, List.take_append_drop]
theorem gD {l : List Bool} (j : Nat) : l.getD j false = (l[j]?).getD false := List.getD_eq_getElem?_getD
theorem setU_take (u : List Bool) (st n : Nat) (v : Bool) : (setU u st n v).take st = u.take st := by
  refine bools_ext (by simp [setU_length]) fun j hj => ?_
  rw [List.length_take, setU_length] at hj
  rw [gD, gD, List.getElem?_take, List.getElem?_take, if_pos (by omega), if_pos (by omega), ← gD, ← gD, setU_getD _ _ _ _ _ (by omega), if_neg (by omega)]
theorem setU_mid (u : List Bool) (st n : Nat) (v : Bool) (h : st + n ≤ u.length) : ((setU u st n v).drop st).take n = List.replicate n v := by
  refine bools_ext (by simp [setU_length]; omega) fun j hj => ?_
  rw [List.length_take, List.length_drop, setU_length] at hj
  rw [gD, gD, List.getElem?_take, if_pos (by omega), List.getElem?_drop, ← gD, setU_getD _ _ _ _ _ (by omega), if_pos (by omega), List.getElem?_replicate, if_pos (by omega)]
  rfl
theorem setU_end (u : List Bool) (st n : Nat) (v : Bool) : ((setU u st n v).drop st).drop n = (u.drop st).drop n := by
  refine bools_ext (by simp [setU_length]) fun j hj => ?_
  rw [List.length_drop, List.length_drop, setU_length] at hj
  rw [List.drop_drop, List.drop_drop, gD, gD, List.getElem?_drop, List.getElem?_drop, ← gD, ← gD, setU_getD _ _ _ _ _ (by omega), if_neg (by omega)]
theorem freeC_set (u : List Bool) (x : Nat × Nat) (h : freeAt u x) : freeC (setU u x.1 x.2 true) + x.2 = freeC u := by
  obtain ⟨h1, h2, h3⟩ := h
  have e : (u.drop x.1).take x.2 = List.replicate x.2 false := by
    refine bools_ext (by simp; omega) fun j hj => ?_
    rw [List.length_take, List.length_drop] at hj
    have := h3 (x.1 + j) (by omega) (by omega)
    rw [List.getD_eq_getElem?_getD, List.getElem?_eq_getElem (by omega)] at this
    rw [gD, gD, List.getElem?_take, if_pos (by omega), List.getElem?_drop, List.getElem?_eq_getElem (by omega), List.getElem?_replicate, if_pos (by omega)]
    exact this
  unfold freeC
  rw [count_split (setU u x.1 x.2 true) x.1, count_split u x.1, count_split ((setU u x.1 x.2 true).drop x.1) x.2, count_split (u.drop x.1) x.2, setU_take, setU_mid _ _ _ _ h2, setU_end, e]
  simp only [List.count_replicate_self]
  rw [List.count_eq_zero_of_not_mem (a := false) (l := List.replicate x.2 true) (by simp [List.mem_replicate])]
  omega
theorem holes_none {u : List Bool} (h : holesG 0 0 u = []) : freeC u = 0 := by
  refine List.count_eq_zero_of_not_mem fun hm => ?_
  obtain ⟨k, hk⟩ := List.mem_iff_getElem?.1 hm
  have hlt := (List.getElem?_eq_some_iff.1 hk).1
  obtain ⟨x, hx, _⟩ := hole_of_free (u := u) (s := k) (k := 1) (by omega) (by omega) (fun j h1 h2 => by
    rw [show j = k by omega, List.getD_eq_getElem?_getD, hk]; rfl)
  rw [h] at hx
  cases hx
theorem allocGo_none : ∀ (f : Nat) (u : List Bool) (n : Nat) (out : List (Nat × Nat)), n ≤ f → allocGo f u n out = none → freeC u < n
  | 0, u, n, out, hf, h => by simp [allocGo] at h
  | f + 1, u, n, out, hf, h => by
    unfold allocGo at h
    by_cases c : n = 0
    · rw [if_pos c] at h; cases h
    · rw [if_neg c] at h
      rcases best_is u n (by omega) with ⟨h0, h1⟩ | ⟨b1, b2, b3⟩
      · rw [holes_none h1]; omega
      · rw [if_neg (by have := b1.1; omega)] at h
        have := allocGo_none f _ _ _ (by have := b1.1; omega) h
        have := freeC_set u _ b1
        omega
theorem takes_count : ∀ (u : List Bool) (l : List (Nat × Nat)) (u' : List Bool), Takes u l u' → freeC u' + sumC l = freeC u ∧ u'.length = u.length
  | u, [], u', h => by cases h; simp [sumC]
  | u, x :: xs, u', h => by
    obtain ⟨h1, h2⟩ := h
    obtain ⟨a, b⟩ := takes_count _ xs u' h2
    have := freeC_set u x h1
    rw [setU_length] at b
    refine ⟨?_, b⟩
    simp only [sumC, List.map_cons, List.sum_cons] at *
    omega
end Go.Proofs.Ytahlhdhljjpeoaa
