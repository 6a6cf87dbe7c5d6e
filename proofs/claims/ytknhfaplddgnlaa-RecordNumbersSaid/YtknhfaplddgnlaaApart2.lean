/- ledgerstonelow.ApartBytes. -/
import Derived.Test.YtknhfaplddgnlaaApart
import Derived.Test.YtknhfaplddgnlaaMark
namespace Go.Proofs.Ytknhfaplddgnlaa
open Go.RowKit
set_option maxHeartbeats 3200000
set_option linter.unusedVariables false
set_option linter.unusedSimpArgs false

theorem heap_in {w : World} {g : Nat} {o : Obj} (h : w.heap[g]? = some o) : g < w.heap.size := (Array.getElem?_eq_some_iff.1 h).1
/-- What lies in no block of S is as it was. -/
structure Kpt (S : Nat → Prop) (w w' : World) : Prop where
  os : w'.os = w.os
  tape : w'.tape = w.tape
  output : w'.output = w.output
  size : w.heap.size ≤ w'.heap.size
  block : ∀ j, j < w.heap.size → ¬ S j → w'.heap[j]? = w.heap[j]?
theorem Kpt.refl (S : Nat → Prop) (w : World) : Kpt S w w := ⟨rfl, rfl, rfl, Nat.le_refl _, fun _ _ _ => rfl⟩
theorem Kpt.trans {S : Nat → Prop} {a b c : World} (h : Kpt S a b) (k : Kpt S b c) : Kpt S a c :=
  ⟨k.os.trans h.os, k.tape.trans h.tape, k.output.trans h.output, Nat.le_trans h.size k.size, fun j hj hs => (k.block j (Nat.lt_of_lt_of_le hj h.size) hs).trans (h.block j hj hs)⟩
theorem Kpt.of_grown {S : Nat → Prop} {w w' : World} {row : Option Nat} (h : w.grownBy w' row) (hr : ∀ j, row = some j → S j) : Kpt S w w' := by
  obtain ⟨h1, h2, h3, h4, h5⟩ := h
  exact ⟨h1, h2, h3, h4, fun j hj hs => h5 j hj (fun e => hs (hr j e.symm))⟩
theorem Kpt.of_below {S : Nat → Prop} {w w' : World} (h : Below w.heap.size w w') : Kpt S w w' := ⟨h.os, h.tape, h.output, h.size, fun j hj _ => h.block j hj⟩
theorem Kpt.mono {S T : Nat → Prop} {w w' : World} (h : Kpt S w w') (hs : ∀ j, S j → T j) : Kpt T w w' := ⟨h.os, h.tape, h.output, h.size, fun j hj hn => h.block j hj (fun x => hn (hs j x))⟩
theorem Kpt.cell {S : Nat → Prop} {w w' : World} (h : Kpt S w w') {b off : Nat} {v : Value} (hc : w.cell? ⟨b, off, none⟩ = some v) (hs : ¬ S b) : w'.cell? ⟨b, off, none⟩ = some v := by
  have hlt : b < w.heap.size := World.block_lt_of_cell? w ⟨b, off, none⟩ hc
  rw [← hc]
  simp only [World.cell?, h.block b hlt hs]
theorem OwnB.kpt {S : Nat → Prop} {base g c : Nat} {w w' : World} {l : List UInt8} (h : OwnB base w (some ⟨g, 0, none⟩) c l) (k : Kpt S w w') (hs : ¬ S g) : OwnB base w' (some ⟨g, 0, none⟩) c l := by
  refine ⟨h.1, ?_⟩
  rcases h.2 with ⟨hv, _⟩ | ⟨g', cap, cur, hv, hb, hg, r⟩
  · simp at hv
  · simp only [Value.slice.injEq, Option.some.injEq, Addr.mk.injEq, and_true, true_and] at hv
    obtain ⟨rfl, rfl⟩ := hv
    exact .inr ⟨g, c, cur, rfl, hb, (k.block g (heap_in hg) hs).trans hg, r⟩
theorem OwnB.lt {base g c : Nat} {w : World} {l : List UInt8} (h : OwnB base w (some ⟨g, 0, none⟩) c l) : base ≤ g ∧ g < w.heap.size := by
  rcases h.2 with ⟨hv, _⟩ | ⟨g', cap, cur, hv, hb, hg, r⟩
  · simp at hv
  · simp only [Value.slice.injEq, Option.some.injEq, Addr.mk.injEq, and_true, true_and] at hv
    obtain ⟨rfl, rfl⟩ := hv
    exact ⟨hb, heap_in hg⟩
theorem OwnB.free {base g c : Nat} {w : World} {l : List UInt8} (h : OwnB base w (some ⟨g, 0, none⟩) c l) (j : Nat) : w.frozen? ⟨g, j, none⟩ = false := World.ownsRow.frozenAt h j
theorem OwnB.stored {base g c : Nat} {w : World} {l : List UInt8} (h : OwnB base w (some ⟨g, 0, none⟩) c l) (j : Nat) (x : UInt8) : w.grownBy (w.setCell ⟨g, j, none⟩ (.int .u8 (x.toNat : Int))) (some g) := (World.ownsRow.stored h j (B8 x)).2
theorem kpt_drew (S : Nat → Prop) (w : World) : Kpt S w w.drew := ⟨rfl, rfl, rfl, Nat.le_refl _, fun _ _ _ => rfl⟩

/-- The lists lie in blocks of their own, each in its place. -/
def Lie (m : Nat) (g c n : Nat → Nat) (base : Nat) (w : World) (C : Nat → List UInt8) : Prop := ∀ j, j < m → OwnB base w (some ⟨g j, 0, none⟩) (c j) (C j) ∧ (C j).length = n j
def upd {α : Type} (C : Nat → α) (k : Nat) (l : α) : Nat → α := fun j => if j = k then l else C j
/-- The lists up to the k-th are marked, and the first i places of that one. -/
def Mk (m : Nat) (g c n : Nat → Nat) (base : Nat) (w : World) (k i : Nat) : Prop :=
  ∃ C, Lie m g c n base w C ∧ (∀ j, j < k → ∀ x, x < n j → bat (C j) x = mkB j x) ∧ ∀ x, x < i → bat (C k) x = mkB k x
theorem Mk.store {m : Nat} {g c n : Nat → Nat} {base : Nat} {w : World} {k i : Nat} (h : Mk m g c n base w k i) (hk : k < m) (hi : i < n k) (hne : ∀ j k, j < m → k < m → j ≠ k → g j ≠ g k) :
    Mk m g c n base (w.setCell ⟨g k, i, none⟩ (.int .u8 ((mkB k i).toNat : Int))) k (i + 1) := by
  obtain ⟨C, h1, h2, h3⟩ := h
  have hk1 := (h1 k hk).2
  refine ⟨upd C k ((C k).set i (mkB k i)), fun j hj => ?_, fun j hj x hx => ?_, fun x hx => ?_⟩
  · by_cases e : j = k
    · subst e
      simp only [upd, if_pos, List.length_set]
      exact ⟨(h1 j hj).1.store i _, hk1⟩
    · simp only [upd, if_neg e]
      exact ⟨(h1 j hj).1.kpt (Kpt.of_grown ((h1 k hk).1.stored i _) (S := fun b => b = g k) (fun j e => (Option.some.inj e).symm)) (hne j k hj hk e), (h1 j hj).2⟩
  · simp only [upd, if_neg (show ¬ j = k by omega)]
    exact h2 j hj x hx
  · simp only [upd, if_pos]
    rw [bat_set _ _ _ _ (by omega)]
    by_cases e : i = x
    · rw [if_pos e, e]
    · rw [if_neg e]
      exact h3 x (by omega)
theorem Mk.next {m : Nat} {g c n : Nat → Nat} {base : Nat} {w : World} {k : Nat} (h : Mk m g c n base w k (n k)) : Mk m g c n base w (k + 1) 0 := by
  obtain ⟨C, h1, h2, h3⟩ := h
  refine ⟨C, h1, fun j hj x hx => ?_, fun x hx => absurd hx (Nat.not_lt_zero _)⟩
  by_cases e : j = k
  · subst e; exact h3 x hx
  · exact h2 j (by omega) x hx
theorem Mk.drew {m : Nat} {g c n : Nat → Nat} {base : Nat} {w : World} {k i : Nat} (h : Mk m g c n base w k i) : Mk m g c n base w.drew k i := h
/-- The first t marks of list k. -/
def mks (k t : Nat) : List UInt8 := (List.range t).map (mkB k)
theorem mks_length (k t : Nat) : (mks k t).length = t := by simp [mks]
theorem mks_take (k a b : Nat) (h : a ≤ b) : (mks k b).take a = mks k a := by simp [mks, ← List.map_take, List.take_range, Nat.min_eq_left h]
theorem mks_succ (k t : Nat) : mks k (t + 1) = mks k t ++ [mkB k t] := by simp [mks, List.range_succ]
theorem bat_mks (k t x : Nat) (h : x < t) : bat (mks k t) x = mkB k x := by simp [mks, bat, h]
theorem Mk.all {m : Nat} {g c n : Nat → Nat} {base : Nat} {w : World} (h : Mk m g c n base w m 0) : Lie m g c n base w (fun j => mks j (n j)) := by
  obtain ⟨C, h1, h2, _⟩ := h
  intro j hj
  have e : C j = mks j (n j) := by
    apply List.ext_getElem (by rw [(h1 j hj).2, mks_length])
    intro x hx1 hx2
    have := h2 j hj x (by rw [← (h1 j hj).2]; exact hx1)
    simpa [bat, mks, hx1] using this
  have := (h1 j hj).1
  rw [e] at this
  exact ⟨this, mks_length _ _⟩
theorem RdB.kpt {S : Nat → Prop} {w w' : World} {b off : Nat} {l : List UInt8} (h : RdB w (some ⟨b, off, none⟩) l) (k : Kpt S w w') (hs : ¬ S b) : RdB w' (some ⟨b, off, none⟩) l := by
  intro hn
  obtain ⟨b', off', e, hc⟩ := h hn
  cases e
  exact ⟨b, off, rfl, fun j u hu => k.cell (hc j u hu) hs⟩
/-- The lists before the k-th are grown, the others not yet. -/
def Gr (m G : Nat) (g c n g' c' : Nat → Nat) (base B : Nat) (w : World) (k : Nat) : Prop :=
  (∀ j, j < m → k ≤ j → OwnB base w (some ⟨g j, 0, none⟩) (c j) (mks j (n j))) ∧
  (∀ j, j < k → RdB w (some ⟨g j, 0, none⟩) (mks j (n j)) ∧ RdB w (some ⟨g' j, 0, none⟩) (mks j (n j + 40)) ∧ (g' j = g j ∨ B ≤ g' j) ∧ g' j < w.heap.size) ∧
  ∃ cs : Array Value, w.heap[G]? = some (.cells cs 31 (0, 0)) ∧ cs.size = m ∧ ∀ j, j < k → cs[j]? = some (.slice (some ⟨g' j, 0, none⟩) (n j + 40) (c' j))
theorem Gr.step {m G : Nat} {g c n g' c' : Nat → Nat} {base B : Nat} {w w2 : World} {k gg cc : Nat} (h : Gr m G g c n g' c' base B w k) (hk : k < m)
    (hne : ∀ j k, j < m → k < m → j ≠ k → g j ≠ g k) (hG : ∀ j, j < m → g j ≠ G) (hGB : G < B) (hB : B ≤ w.heap.size) (hg : ∀ j, j < m → g j < B)
    (K1 : Kpt (fun b => b = g k ∨ w.heap.size ≤ b) w w2) (ho : OwnB base w2 (some ⟨gg, 0, none⟩) cc (mks k (n k + 40))) (hgg : gg = g k ∨ w.heap.size ≤ gg) (hr : RdB w2 (some ⟨g k, 0, none⟩) (mks k (n k))) :
    Gr m G g c n (upd g' k gg) (upd c' k cc) base B (w2.setCell ⟨G, k, none⟩ (.slice (some ⟨gg, 0, none⟩) (n k + 40) cc)) (k + 1) := by
  obtain ⟨ha, hb, cs, h1, h2, h3⟩ := h
  have K2 : Kpt (fun b => b = G) w2 (w2.setCell ⟨G, k, none⟩ (.slice (some ⟨gg, 0, none⟩) (n k + 40) cc)) := ⟨rfl, rfl, rfl, by simp [World.setCell], fun j hj hs => Below.heap_setCell _ _ _ _ hs⟩
  have hgk := hg k hk
  have hGk := hG k hk
  have hggG : gg ≠ G := by rcases hgg with e | e <;> omega
  refine ⟨fun j hj hkj => ?_, fun j hj => ?_, cs.setIfInBounds k (.slice (some ⟨gg, 0, none⟩) (n k + 40) cc), ?_, by simpa using h2, fun j hj => ?_⟩
  · have := hne j k hj hk (by omega)
    have h5 := hg j hj
    exact ((ha j hj (by omega)).kpt K1 (by omega)).kpt K2 (hG j hj)
  · by_cases e : j = k
    · subst e
      simp only [upd, if_pos]
      exact ⟨hr.kpt K2 hGk, ho.rd.kpt K2 hggG, by omega, Nat.lt_of_lt_of_le ho.lt.2 K2.size⟩
    · simp only [upd, if_neg e]
      obtain ⟨r1, r2, r3, r4⟩ := hb j (by omega)
      have := hne j k (by omega) hk e
      have h5 := hg j (by omega)
      have h6 := hG j (by omega)
      exact ⟨(r1.kpt K1 (by omega)).kpt K2 h6, (r2.kpt K1 (by omega)).kpt K2 (by omega), r3, Nat.lt_of_lt_of_le r4 (Nat.le_trans K1.size K2.size)⟩
  · exact heap_setCell_same w2 G k cs _ _ ((K1.block G (by omega) (by omega)).trans h1)
  · by_cases e : j = k
    · subst e
      simp [upd, h2, hk]
    · simp only [upd, if_neg e]
      rw [Array.getElem?_setIfInBounds_ne (by omega)]
      exact h3 j (by omega)
end Go.Proofs.Ytknhfaplddgnlaa
