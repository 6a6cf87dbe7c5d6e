/- Crash. -/
import Derived.Test.YtddejjmebokgiaaDkT
import Derived.Deep.RegionHeld3
namespace Go.Proofs.Ytddejjmebokgiaa
open Go.RowKit
variable {Q : Nat → Prop}
set_option maxHeartbeats 3200000
set_option maxRecDepth 100000
set_option linter.unusedVariables false
set_option linter.unusedSimpArgs false

/-- What is durable behind the first j writes of a crash. -/
def Dk.crS (d : Dk) (ks : List Bool) (at_ : Int) (s : Nat) : Nat → List (List UInt8)
  | 0 => d.safe
  | j + 1 =>
    if (j : Int) = at_ then (d.crS ks at_ s j).set (d.wn.getD j 0) (tornB ((d.crS ks at_ s j).getD (d.wn.getD j 0) []) (d.wd.getD j []) s)
    else if ks.getD j false = true then (d.crS ks at_ s j).set (d.wn.getD j 0) (d.wd.getD j [])
    else d.crS ks at_ s j
def Dk.crash (d : Dk) (ks : List Bool) (at_ : Int) (s : Nat) : Dk :=
  { safe := d.crS ks at_ s d.wn.length, now := d.crS ks at_ s d.wn.length, wn := [], wd := [], count := d.count, down := false, aon := false, aleft := 0, fon := false, fleft := 0 }
theorem crS_length (d : Dk) (ks : List Bool) (at_ : Int) (s : Nat) : ∀ j, (d.crS ks at_ s j).length = d.safe.length
  | 0 => rfl
  | j + 1 => by
    have := crS_length d ks at_ s j
    unfold Dk.crS
    split
    · simpa using this
    · split
      · simpa using this
      · exact this
theorem crS_4 {d : Dk} (h : d.ok) (ks : List Bool) (at_ : Int) (s : Nat) : ∀ j, j ≤ d.wn.length → ∀ l ∈ d.crS ks at_ s j, l.length = 4096
  | 0, _ => h.s4
  | j + 1, hj => by
    have ih := crS_4 h ks at_ s j (by omega)
    have hd : (d.wd.getD j []).length = 4096 := by
      have : j < d.wd.length := by have := h.wlen; omega
      rw [List.getD_eq_getElem?_getD, List.getElem?_eq_getElem this]
      exact h.w4 _ (List.getElem_mem this)
    unfold Dk.crS
    intro l hl
    split at hl
    · rcases List.mem_or_eq_of_mem_set hl with hl | rfl
      · exact ih l hl
      · exact tornB_length _ _ _
    · split at hl
      · rcases List.mem_or_eq_of_mem_set hl with hl | rfl
        · exact ih l hl
        · exact hd
      · exact ih l hl
theorem Dk.ok.crash {d : Dk} (h : d.ok) (ks : List Bool) (at_ : Int) (s : Nat) : (d.crash ks at_ s).ok := by
  have hl : (d.crS ks at_ s d.wn.length).length = d.now.length := (crS_length _ _ _ _ _).trans h.len
  have h4 := crS_4 h ks at_ s d.wn.length (Nat.le_refl _)
  exact ⟨rfl, by simp only [Dk.crash, hl]; exact h.pos, by simp only [Dk.crash, hl]; exact h.max, rfl, by simp [Dk.crash], by simp [Dk.crash], h4, h4, by simp [Dk.crash]⟩
/-- The end of a crash. -/
def crW (w : World) (D : Nat) (vn : Value) : World :=
  (((((((w.setCell ⟨D, 1, none⟩ vn).setCell ⟨D, 2, none⟩ (.slice none 0 0)).setCell ⟨D, 4, none⟩ (.bool false)).setCell ⟨D, 5, none⟩ (.bool false)).setCell ⟨D, 6, none⟩ (.int .i64 0)).setCell ⟨D, 7, none⟩ (.bool false)).setCell ⟨D, 8, none⟩ (.int .i64 0))
theorem crash_mem {base : Nat} {w w1 w2 : World} {D : Nat} {d : Dk} {S : Nat → Prop} {vn vw : Value} {gs cs g c : Nat} {L : List (List UInt8)} {xs : List Value} (hk : Kpt (fun b => b = gs) w w1) (hb : Below w1.heap.size w1 w2) (hsz : base ≤ w.heap.size)
    (hS : S = foot D (.slice (some ⟨gs, 0, none⟩) d.safe.length cs) vn vw) (hin : ∀ b, S b → b < w.heap.size) (hD : base ≤ D) (hl : L.length = d.safe.length)
    (hr : w2.heap[D]? = some (.cells (dkC (.slice (some ⟨gs, 0, none⟩) d.safe.length cs) vn vw d) 74 (0, 0))) (hp : Prt Q base w2 { d with safe := L } (.slice (some ⟨gs, 0, none⟩) d.safe.length cs) vn vw)
    (hxn : w2.ownsRow w1.heap.size 30 1 (.slice (some ⟨g, 0, none⟩) d.safe.length c) d.safe.length xs) (hdn : Dats Q w2 xs L)
    (ho : Dk.ok { safe := L, now := L, wn := [], wd := [], count := d.count, down := false, aon := false, aleft := 0, fon := false, fleft := 0 }) :
    Turn Q base w D S (crW w2 D (.slice (some ⟨g, 0, none⟩) d.safe.length c)) { safe := L, now := L, wn := [], wd := [], count := d.count, down := false, aon := false, aleft := 0, fon := false, fleft := 0 } := by
  subst hS
  have kk : Kpt (fun b => b = D) w2 (crW w2 D (.slice (some ⟨g, 0, none⟩) d.safe.length c)) := (kpt_one _).trans ((kpt_one _).trans ((kpt_one _).trans ((kpt_one _).trans ((kpt_one _).trans ((kpt_one _).trans (kpt_one _))))))
  have hgb := (own_row hxn (b := g) rfl).1
  have hgs : gs < w.heap.size := hin gs (.inr (.inl rfl))
  obtain ⟨ys, gs', cs', q1, q2, q3⟩ := hp.s
  simp only [Value.slice.injEq, Option.some.injEq, Addr.mk.injEq, and_true, true_and] at q1
  obtain ⟨rfl, -, rfl⟩ := q1
  have hp' : Prt Q base w2 { safe := L, now := L, wn := [], wd := [], count := d.count, down := false, aon := false, aleft := 0, fon := false, fleft := 0 } (.slice (some ⟨gs, 0, none⟩) d.safe.length cs) (.slice (some ⟨g, 0, none⟩) d.safe.length c) (.slice none 0 0) := by
    refine ⟨⟨ys, gs, cs, by rw [hl], q2, q3⟩, ⟨xs, g, c, by rw [hl], ?_, hdn⟩, ⟨[], World.ownsRow_nil w2 base _ 2, Dats.nil _⟩, ?_⟩
    · rw [hl]
      exact own_mono hxn (Nat.le_trans hsz hk.size)
    · simp only [Value.ownBlock, Option.map_some, ne_eq, Option.some.injEq]
      have := hk.size
      omega
  refine ⟨foot D (.slice (some ⟨gs, 0, none⟩) d.safe.length cs) (.slice (some ⟨g, 0, none⟩) d.safe.length c) (.slice none 0 0), refit hD hr kk hp' ho ?_, ?_, ?_⟩
  · exact heap_setCell_same _ _ _ _ _ _ (heap_setCell_same _ _ _ _ _ _ (heap_setCell_same _ _ _ _ _ _ (heap_setCell_same _ _ _ _ _ _ (heap_setCell_same _ _ _ _ _ _ (heap_setCell_same _ _ _ _ _ _ (heap_setCell_same _ _ _ _ _ _ hr))))))
  · exact (hk.mono (by rintro b rfl; exact .inr (.inl rfl))).trans ((Kpt.of_below hb).trans (kk.mono (by rintro b rfl; exact .inl rfl)))
  · rintro b (rfl | hb | hb | hb)
    · exact .inl (.inl rfl)
    · exact .inl (.inr (.inl hb))
    · simp only [Value.ownBlock, Option.map_some, Option.some.injEq] at hb
      have := hk.size
      exact .inr (by omega)
    · simp [Value.ownBlock] at hb
def Bools (ks : List Bool) : List Value := ks.map .bool
/-- What a crash's loop keeps. -/
structure CrL (Q : Nat → Prop) (base : Nat) (w : World) (D : Nat) (d : Dk) (vs vn vw : Value) (gs : Nat) (L : List (List UInt8)) (wr : World) : Prop where
  row : wr.heap[D]? = some (.cells (dkC vs vn vw d) 74 (0, 0))
  prt : Prt Q base wr { d with safe := L } vs vn vw
  kpt : Kpt (fun b => b = gs) w wr
theorem CrL.below {base : Nat} {w : World} {D : Nat} {d : Dk} {vs vn vw : Value} {gs : Nat} {L : List (List UInt8)} {wr w' : World} (h : CrL Q base w D d vs vn vw gs L wr) (b : Below wr.heap.size wr w') : CrL Q base w D d vs vn vw gs L w' :=
  ⟨(b.block D (heap_in h.row)).trans h.row, h.prt.kpt (T := fun _ => False) (.of_below b) (fun _ h => h.elim) (fun _ _ h => h) (fun _ _ h => h) (fun _ _ h => h), h.kpt.trans (.of_below b)⟩
theorem CrL.store {base : Nat} {w : World} {D : Nat} {d : Dk} {vn vw : Value} {gs cs : Nat} {L : List (List UInt8)} {wr : World} (h : CrL Q base w D d (.slice (some ⟨gs, 0, none⟩) d.safe.length cs) vn vw gs L wr) (hl : L.length = d.safe.length) (i : Nat) {u : Value} {l : List UInt8} (hu : Dat Q wr u l) :
    CrL Q base w D d (.slice (some ⟨gs, 0, none⟩) d.safe.length cs) vn vw gs (L.set i l) (wr.setCell ⟨gs, i, none⟩ u) := by
  have hp : Prt Q base wr { d with safe := L } (.slice (some ⟨gs, 0, none⟩) ({ d with safe := L } : Dk).safe.length cs) vn vw := by
    have := h.prt
    rw [← hl] at this
    exact this
  have h2 := hp.setSafe i hu
  simp only [List.length_set] at h2
  obtain ⟨ys, gs', cs', q1, q2, q3⟩ := hp.s
  have hgD : gs ≠ D := own_neD q2 h.row (by decide) rfl
  rw [← hl]
  exact ⟨by rw [hl]; exact ((kpt_one (g := gs) u).block D (heap_in h.row) (fun e => hgD e.symm)).trans h.row, h2, h.kpt.trans (kpt_one u)⟩
theorem CrL.cell {base : Nat} {w : World} {D : Nat} {d : Dk} {vn vw : Value} {gs cs : Nat} {L : List (List UInt8)} {wr : World} (h : CrL Q base w D d (.slice (some ⟨gs, 0, none⟩) d.safe.length cs) vn vw gs L wr) (h4 : ∀ l ∈ L, l.length = 4096) (n : Nat) (hn : n < L.length) :
    ∃ b off c, wr.cell? ⟨gs, n, none⟩ = some (.slice (some ⟨b, off, none⟩) 4096 c) ∧ RdB wr (some ⟨b, off, none⟩) (L.getD n []) ∧ (L.getD n []).length = 4096 ∧ wr.frozen? ⟨gs, n, none⟩ = false := by
  obtain ⟨ys, gs', cs', q1, q2, q3⟩ := h.prt.s
  simp only [Value.slice.injEq, Option.some.injEq, Addr.mk.injEq, and_true, true_and] at q1
  obtain ⟨rfl, e, rfl⟩ := q1
  simp only at e q2
  rw [e] at q2
  obtain ⟨x, hx, hdat⟩ := q3.at_ hn
  have hc := q2.cells (g := gs) rfl n _ hx
  rw [add_plain, Nat.zero_add] at hc
  have hl : L[n].length = 4096 := h4 _ (List.getElem_mem hn)
  have hg : L.getD n [] = L[n] := by rw [List.getD_eq_getElem?_getD, List.getElem?_eq_getElem hn]; rfl
  obtain ⟨b, off, c, rfl, h1, _⟩ := hdat.rd
  rw [hl] at hc
  exact ⟨b, off, c, hc, by rw [hg]; exact h1, by rw [hg]; exact hl, World.ownsRow.frozenAt q2 n⟩
theorem CrL.store' {base : Nat} {w : World} {D SL : Nat} {d : Dk} {vn vw : Value} {gs cs : Nat} {L : List (List UInt8)} {wr : World} (hSL : d.safe.length = SL) (h : CrL Q base w D d (.slice (some ⟨gs, 0, none⟩) SL cs) vn vw gs L wr) (hl : L.length = SL) (i : Nat) {u : Value} {l : List UInt8} (hu : Dat Q wr u l) :
    CrL Q base w D d (.slice (some ⟨gs, 0, none⟩) SL cs) vn vw gs (L.set i l) (wr.setCell ⟨gs, i, none⟩ u) := by
  subst hSL; exact h.store hl i hu
theorem CrL.cell' {base : Nat} {w : World} {D SL : Nat} {d : Dk} {vn vw : Value} {gs cs : Nat} {L : List (List UInt8)} {wr : World} (hSL : d.safe.length = SL) (h : CrL Q base w D d (.slice (some ⟨gs, 0, none⟩) SL cs) vn vw gs L wr) (h4 : ∀ l ∈ L, l.length = 4096) (n : Nat) (hn : n < L.length) :
    ∃ b off c, wr.cell? ⟨gs, n, none⟩ = some (.slice (some ⟨b, off, none⟩) 4096 c) ∧ RdB wr (some ⟨b, off, none⟩) (L.getD n []) ∧ (L.getD n []).length = 4096 ∧ wr.frozen? ⟨gs, n, none⟩ = false := by
  subst hSL; exact h.cell h4 n hn
theorem Dat.rdb {w : World} {b off n c : Nat} {l : List UInt8} (h : Dat Q w (.slice (some ⟨b, off, none⟩) n c) l) : RdB w (some ⟨b, off, none⟩) l := by
  obtain ⟨b', off', c', e, h1, _⟩ := h.rd
  simp only [Value.slice.injEq, Option.some.injEq, Addr.mk.injEq, and_true] at e
  obtain ⟨⟨rfl, rfl⟩, _, _⟩ := e
  exact h1
theorem bools_ne {ks : List Bool} {k : Nat} (hk : k < ks.length) : Bools ks ≠ [] := by
  intro e
  simp only [Bools, List.map_eq_nil_iff] at e
  subst e
  simp at hk
theorem crS_at {d : Dk} {ks : List Bool} {at_ : Int} {s j : Nat} (h : (j : Int) = at_) : d.crS ks at_ s (j + 1) = (d.crS ks at_ s j).set (d.wn.getD j 0) (tornB ((d.crS ks at_ s j).getD (d.wn.getD j 0) []) (d.wd.getD j []) s) := by
  rw [Dk.crS, if_pos h]
theorem crS_keep {d : Dk} {ks : List Bool} {at_ : Int} {s j : Nat} (h : ¬ (j : Int) = at_) (h2 : ks.getD j false = true) : d.crS ks at_ s (j + 1) = (d.crS ks at_ s j).set (d.wn.getD j 0) (d.wd.getD j []) := by
  rw [Dk.crS, if_neg h, if_pos h2]
theorem crS_drop {d : Dk} {ks : List Bool} {at_ : Int} {s j : Nat} (h : ¬ (j : Int) = at_) (h2 : ks.getD j false = false) : d.crS ks at_ s (j + 1) = d.crS ks at_ s j := by
  rw [Dk.crS, if_neg h, if_neg (by rw [h2]; simp)]
theorem CrL.drew {base : Nat} {w : World} {D : Nat} {d : Dk} {vs vn vw : Value} {gs : Nat} {L : List (List UInt8)} {wr : World} (h : CrL Q base w D d vs vn vw gs L wr) : CrL Q base w D d vs vn vw gs L wr.drew := h.below ⟨rfl, rfl, rfl, Nat.le_refl _, fun _ _ => rfl⟩
theorem keep3 {v W : World} {g h i j : Nat} {o : Nat} {a b c : Value} (q : v.cell? ⟨g, i, none⟩ = some a ∧ v.cell? ⟨h, j, none⟩ = some b ∧ v.cell? ⟨h, o, none⟩ = some c) (bl : Below v.heap.size v W) :
    W.cell? ⟨g, i, none⟩ = some a ∧ W.cell? ⟨h, j, none⟩ = some b ∧ W.cell? ⟨h, o, none⟩ = some c := ⟨cell_below bl q.1, cell_below bl q.2.1, cell_below bl q.2.2⟩
theorem keep3s {v : World} {g h i j : Nat} {o : Nat} {a b c : Value} (q : v.cell? ⟨g, i, none⟩ = some a ∧ v.cell? ⟨h, j, none⟩ = some b ∧ v.cell? ⟨h, o, none⟩ = some c) {p n : Nat} (hg : g ≠ p) (hh : h ≠ p) (u : Value) :
    (v.setCell ⟨p, n, none⟩ u).cell? ⟨g, i, none⟩ = some a ∧ (v.setCell ⟨p, n, none⟩ u).cell? ⟨h, j, none⟩ = some b ∧ (v.setCell ⟨p, n, none⟩ u).cell? ⟨h, o, none⟩ = some c :=
  ⟨Kpt.cell (S := fun b => b = p) (kpt_one u) q.1 hg, Kpt.cell (S := fun b => b = p) (kpt_one u) q.2.1 hh, Kpt.cell (S := fun b => b = p) (kpt_one u) q.2.2 hh⟩
end Go.Proofs.Ytddejjmebokgiaa
