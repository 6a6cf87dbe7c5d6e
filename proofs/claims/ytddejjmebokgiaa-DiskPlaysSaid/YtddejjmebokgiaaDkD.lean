/- Write. -/
import Derived.Test.YtddejjmebokgiaaDkC
namespace Go.Proofs.Ytddejjmebokgiaa
open Go.RowKit
variable {Q : Nat → Prop}
set_option maxHeartbeats 3200000
set_option maxRecDepth 100000
set_option linter.unusedVariables false
set_option linter.unusedSimpArgs false

def Dk.put (d : Dk) (n : Nat) (b : List UInt8) : Dk := { d with now := d.now.set n b, wn := d.wn ++ [n], wd := d.wd ++ [b], count := wrap64 (d.count + 1) }
def Dk.wrE (d : Dk) (n : Int) (b : List UInt8) : Int := if d.wrong n ≠ 0 then d.wrong n else if b.length ≠ 4096 then 2 else d.stopE
def Dk.wrD (d : Dk) (n : Int) (b : List UInt8) : Dk := if d.wrong n ≠ 0 then d else if b.length ≠ 4096 then d else if d.stopE ≠ 0 then d.stopD else d.stopD.put n.toNat b
theorem stopD_same (d : Dk) : d.stopD.safe = d.safe ∧ d.stopD.now = d.now ∧ d.stopD.wn = d.wn ∧ d.stopD.wd = d.wd ∧ d.stopD.count = d.count := by
  unfold Dk.stopD Dk.gone
  split
  · simp
  · split <;> simp
theorem Dk.ok.put {d : Dk} (h : d.ok) {n : Nat} {b : List UInt8} (hn : n < d.now.length) (hb : b.length = 4096) (hw : d.wn.length < 1000000) : (d.put n b).ok := by
  refine ⟨by simp [Dk.put, h.len], by simpa [Dk.put] using h.pos, by simpa [Dk.put] using h.max, by simp [Dk.put, h.wlen], by simp [Dk.put]; omega, ?_, h.s4, ?_, ?_⟩
  · intro k hk
    simp only [Dk.put, List.mem_append, List.mem_singleton, List.length_set] at hk ⊢
    rcases hk with hk | rfl
    · exact h.win k hk
    · exact hn
  · intro l hl
    rcases List.mem_or_eq_of_mem_set hl with hl | rfl
    · exact h.n4 l hl
    · exact hb
  · intro l hl
    simp only [Dk.put, List.mem_append, List.mem_singleton] at hl
    rcases hl with hl | rfl
    · exact h.w4 l hl
    · exact hb
theorem Turn.of {base : Nat} {w w' : World} {D : Nat} {S : Nat → Prop} {d' : Dk} (h : IsDk Q base w' D S d') (k : Kpt (fun b => b = D) w w') (hS : S D) : Turn Q base w D S w' d' :=
  ⟨S, h, k.mono (by rintro b rfl; exact hS), fun b hb => .inl hb⟩
theorem IsDk.inS {base : Nat} {w : World} {D : Nat} {S : Nat → Prop} {d : Dk} (h : IsDk Q base w D S d) : S D := by
  obtain ⟨vs, vn, vw, rfl, _⟩ := h
  exact .inl rfl
/-- The three stores of a write. -/
theorem put_mem {base : Nat} {w1 w4 w5 : World} {D n : Nat} {S : Nat → Prop} {d : Dk} {vs vw vw' : Value} {gn cn : Nat} {u : Value} {b : List UInt8} {xw : List Value} (hb1 : Below w1.heap.size w1 w4) (hsz : base ≤ w1.heap.size)
    (hS : S = foot D vs (.slice (some ⟨gn, 0, none⟩) d.now.length cn) vw) (hD : base ≤ D) (hin : ∀ b, S b → b < w1.heap.size)
    (hr : w4.heap[D]? = some (.cells (dkC vs (.slice (some ⟨gn, 0, none⟩) d.now.length cn) vw d) 74 (0, 0))) (hp : Prt Q base w4 d vs (.slice (some ⟨gn, 0, none⟩) d.now.length cn) vw) (ho : d.ok)
    (hn : n < d.now.length) (hb : b.length = 4096) (hw : d.wn.length < 1000000) (hu : Dat Q w4 u b) (hxw : w4.ownsRow base 78 2 vw d.wn.length (wcells d.wn xw)) (hdw : Dats Q w4 xw d.wd)
    (h5 : w5.ownsRow base 78 2 vw' (d.wn.length + 1) (wcells d.wn xw ++ [.int .i64 (n : Int), u])) (h6 : (vw'.ownBlock = vw.ownBlock ∧ w4.grownBy w5 vw.ownBlock) ∨ (vw'.ownBlock = some w4.heap.size ∧ Below w4.heap.size w4 w5)) :
    ∃ x, (w5.setCell ⟨D, 2, none⟩ vw').heap[D]? = some (.cells (dkC vs (.slice (some ⟨gn, 0, none⟩) d.now.length cn) vw' d) 74 (0, 0)) ∧ (w5.setCell ⟨D, 2, none⟩ vw').cell? ⟨gn, n, none⟩ = some x ∧ (w5.setCell ⟨D, 2, none⟩ vw').frozen? ⟨gn, n, none⟩ = false ∧
      (∀ W, W = w5.setCell ⟨D, 2, none⟩ vw' ∨ W = (w5.setCell ⟨D, 2, none⟩ vw').drew → ((W.setCell ⟨gn, n, none⟩ u).heap[D]? = some (.cells (dkC vs (.slice (some ⟨gn, 0, none⟩) d.now.length cn) vw' d) 74 (0, 0)) ∧ Turn Q base w1 D S ((W.setCell ⟨gn, n, none⟩ u).setCell ⟨D, 3, none⟩ (.int .i64 (wrap64 (d.count + 1)))) (d.put n b))) := by
  have hnoW : ∀ b, vw.ownBlock = some b → ¬ U8 w4 b := fun b hb => own_nou hxw (by decide) hb
  have k5 : Kpt (fun b => vw.ownBlock = some b) w4 w5 := by
    rcases h6 with ⟨_, h⟩ | ⟨_, h⟩
    · exact Kpt.of_grown h (fun j e => e)
    · exact Kpt.of_below h
  have hwl := ho.wlen
  have hp5 : Prt Q base w5 { d with wn := d.wn ++ [n], wd := d.wd ++ [b] } vs (.slice (some ⟨gn, 0, none⟩) d.now.length cn) vw' := by
    refine hp.newW k5 (xw := xw ++ [u]) ?_ ((hdw.kpt k5 hnoW).snoc (hu.kpt k5 hnoW))
    rw [List.length_append, wcells_snoc _ _ _ _ (by rw [hwl, hdw.1])]
    exact h5
  have hr5 : w5.heap[D]? = some (.cells (dkC vs (.slice (some ⟨gn, 0, none⟩) d.now.length cn) vw d) 74 (0, 0)) := (k5.block D (heap_in hr) (fun hb => own_neD hxw hr (by decide) hb rfl)).trans hr
  have hr6 : (w5.setCell ⟨D, 2, none⟩ vw').heap[D]? = some (.cells (dkC vs (.slice (some ⟨gn, 0, none⟩) d.now.length cn) vw' d) 74 (0, 0)) := heap_setCell_same _ _ _ _ _ _ hr5
  have k6 : Kpt (fun b => b = D) w5 (w5.setCell ⟨D, 2, none⟩ vw') := kpt_one _
  have hp6 := hp5.other hr5 k6
  have hu6 : Dat Q (w5.setCell ⟨D, 2, none⟩ vw') u b := (hu.kpt k5 hnoW).kpt k6 (by rintro b rfl; exact row_not_u8 hr5 (by decide))
  obtain ⟨xn, gn', cn', q1, q2, q3⟩ := hp6.n
  simp only [Value.slice.injEq, Option.some.injEq, Addr.mk.injEq, and_true, true_and] at q1
  obtain ⟨rfl, rfl⟩ := q1
  obtain ⟨x, hx, _⟩ := q3.at_ hn
  have hc := q2.cells (g := gn) rfl n _ hx
  rw [add_plain, Nat.zero_add] at hc
  have hgD : gn ≠ D := own_neD q2 hr6 (by decide) rfl
  refine ⟨x, hr6, hc, World.ownsRow.frozenAt q2 n, ?_⟩
  intro W hW
  have hWk : Kpt (fun b => b = D) w5 W := by
    rcases hW with rfl | rfl
    · exact k6
    · exact k6.trans (kpt_drew _ _)
  have hrW : W.heap[D]? = some (.cells (dkC vs (.slice (some ⟨gn, 0, none⟩) d.now.length cn) vw' d) 74 (0, 0)) := by
    rcases hW with rfl | rfl <;> exact hr6
  have hpW := hp5.other hr5 hWk
  have huW : Dat Q W u b := (hu.kpt k5 hnoW).kpt hWk (by rintro b rfl; exact row_not_u8 hr5 (by decide))
  have hp7 := hpW.setNow n huW
  have k7 : Kpt (fun b => b = gn) W (W.setCell ⟨gn, n, none⟩ u) := kpt_one _
  have hr7 := (k7.block D (heap_in hrW) (fun e => hgD e.symm)).trans hrW
  refine ⟨hr7, ?_⟩
  have k8 : Kpt (fun b => b = D) (W.setCell ⟨gn, n, none⟩ u) ((W.setCell ⟨gn, n, none⟩ u).setCell ⟨D, 3, none⟩ (.int .i64 (wrap64 (d.count + 1)))) := kpt_one _
  have hp8 := hp7.other hr7 k8
  have hl : (d.now.set n b).length = d.now.length := by simp
  simp only [List.length_set] at hp8
  refine ⟨foot D vs (.slice (some ⟨gn, 0, none⟩) d.now.length cn) vw', ⟨vs, _, vw', rfl, hD, ?_, ⟨hp8.s, ?_, hp8.w, hp8.ne⟩, ho.put hn hb hw⟩, ?_, ?_⟩
  · exact heap_setCell_same _ _ _ _ _ _ hr7
  · obtain ⟨a1, a2, a3, a4, a5, a6⟩ := hp8.n
    simp only [List.length_set] at a4 a5
    exact ⟨a1, a2, a3, by simpa [Dk.put] using a4, by simpa [Dk.put] using a5, a6⟩
  · subst hS
    refine ((Kpt.of_below hb1).trans ((k5.mono ?_).trans ((hWk.mono ?_).trans ((k7.mono ?_).trans (k8.mono ?_)))))
    · exact fun b hb => .inr (.inr (.inr hb))
    · rintro b rfl; exact .inl rfl
    · rintro b rfl; exact .inr (.inr (.inl rfl))
    · rintro b rfl; exact .inl rfl
  · subst hS
    rintro b (rfl | hb | hb | hb)
    · exact .inl (.inl rfl)
    · exact .inl (.inr (.inl hb))
    · exact .inl (.inr (.inr (.inl hb)))
    · rcases h6 with ⟨e, _⟩ | ⟨e, _⟩
      · exact .inl (.inr (.inr (.inr (e ▸ hb))))
      · rw [e] at hb
        simp only [Option.some.injEq] at hb
        exact .inr (by have := hb1.size; omega)
theorem put_row {base : Nat} {W w5 : World} {D n : Nat} {vw vw' : Value} {cs : Array Value} {xs : List Value} (hr : W.heap[D]? = some (.cells cs 74 (0, 0))) (hxw : W.ownsRow base 78 2 vw n xs)
    (h6 : (vw'.ownBlock = vw.ownBlock ∧ W.grownBy w5 vw.ownBlock) ∨ (vw'.ownBlock = some W.heap.size ∧ Below W.heap.size W w5)) :
    w5.heap[D]? = some (.cells cs 74 (0, 0)) ∧ ∀ g o, g < W.heap.size → W.heap[g]? = some o → (∀ b, vw.ownBlock = some b → b ≠ g) → w5.heap[g]? = some o := by
  have k5 : Kpt (fun b => vw.ownBlock = some b) W w5 := by
    rcases h6 with ⟨_, h⟩ | ⟨_, h⟩
    · exact Kpt.of_grown h (fun j e => e)
    · exact Kpt.of_below h
  exact ⟨(k5.block D (heap_in hr) (fun hb => own_neD hxw hr (by decide) hb rfl)).trans hr, fun g o hg ho hb => (k5.block g hg (fun e => hb g e rfl)).trans ho⟩
theorem two {w : World} {g : Nat} {t : TypeId} {x0 x1 : Value} (h : w.heap[g]? = some (.cells #[x0, x1] t (0, 0))) : w.cell? ⟨g, 0, none⟩ = some x0 ∧ w.cell? ⟨g, 1, none⟩ = some x1 := by
  refine ⟨?_, ?_⟩ <;> (rw [cell_of_row _ _ _ _ _ _ h]; rfl)
end Go.Proofs.Ytddejjmebokgiaa
