/- The disk's gates, and Read. -/
import Derived.Test.YtddejjmebokgiaaDkA
namespace Go.Proofs.Ytddejjmebokgiaa
open Go.RowKit
variable {Q : Nat → Prop}
set_option maxHeartbeats 3200000
set_option maxRecDepth 100000
set_option linter.unusedVariables false
set_option linter.unusedSimpArgs false

def gOn (on : Bool) (left : Int) : Bool := on && decide (0 ≤ wrap64 (left - 1))
def gLeft (on : Bool) (left : Int) : Int := if on then wrap64 (left - 1) else left
def gStop (on : Bool) (left : Int) : Bool := on && !decide (0 ≤ wrap64 (left - 1))
/-- The gate's turn, at cells k, k + 1. -/
def gW (w : World) (D k : Nat) (on : Bool) (left : Int) : World := if on then (w.setCell ⟨D, k + 1, none⟩ (.int .i64 (gLeft on left))).setCell ⟨D, k, none⟩ (.bool (gOn on left)) else w
theorem stops_any (w : World) (D k : Nat) (on : Bool) (left : Int) (h1 : w.cell? ⟨D, k, none⟩ = some (.bool on)) (h2 : w.cell? ⟨D, k + 1, none⟩ = some (.int .i64 left))
    (f1 : w.frozen? ⟨D, k, none⟩ = false) (f2 : w.frozen? ⟨D, k + 1, none⟩ = false) :
    Calls Try.prog 60 #[.pointer (some ⟨D, k, none⟩)] w fun e w' => e = .returned (.bool (gStop on left)) ∧ w' = gW w D k on left := by
  unfold gW gStop gOn gLeft
  cases on
  · go_enter Try.func60, Try.ntmps60
    go_wp2
    go_ret
    exact ⟨rfl, rfl⟩
  · go_enter Try.func60, Try.ntmps60
    go_wp2
    go_ret
    exact ⟨by simp, by simp⟩
/-- What stops an operation that goes by. -/
def Dk.gone (d : Dk) : Dk := { d with aon := gOn d.aon d.aleft, aleft := gLeft d.aon d.aleft, fon := gOn d.fon d.fleft, fleft := gLeft d.fon d.fleft }
def Dk.stopE (d : Dk) : Int := if d.down then 6 else if gStop d.aon d.aleft then 6 else if gStop d.fon d.fleft then 4 else 0
def Dk.stopD (d : Dk) : Dk := if d.down then d else if gStop d.aon d.aleft then { d.gone with down := true } else d.gone
theorem gW_row {w : World} {D k : Nat} {on : Bool} {left : Int} {cs : Array Value} {t : TypeId} (h : w.heap[D]? = some (.cells cs t (0, 0))) (h1 : cs[k]? = some (.bool on)) (h2 : cs[k + 1]? = some (.int .i64 left)) :
    (gW w D k on left).heap[D]? = some (.cells ((cs.setIfInBounds (k + 1) (.int .i64 (gLeft on left))).setIfInBounds k (.bool (gOn on left))) t (0, 0)) := by
  unfold gW
  cases on
  · rw [if_neg (by simp), h]
    congr 2
    apply Array.ext (by simp)
    intro i hi1 hi2
    simp only [gLeft, gOn, Bool.false_eq_true, if_false, Bool.false_and]
    rw [Array.getElem_setIfInBounds (by simpa using hi1), Array.getElem_setIfInBounds (by simpa using hi1)]
    rw [Array.getElem?_eq_some_iff] at h1 h2
    obtain ⟨q1, h1⟩ := h1
    obtain ⟨q2, h2⟩ := h2
    split
    · next e => subst e; exact h1
    · split
      · next e => subst e; exact h2
      · rfl
  · rw [if_pos rfl]
    exact heap_setCell_same _ _ _ _ _ _ (heap_setCell_same _ _ _ _ _ _ h)
theorem gW_kpt (w : World) (D k : Nat) (on : Bool) (left : Int) : Kpt (fun b => b = D) w (gW w D k on left) := by
  unfold gW
  split
  · exact Kpt.setCell (S := fun b => b = D) (Kpt.setCell (S := fun b => b = D) (Kpt.refl _ w) (p := ⟨D, k + 1, none⟩) rfl _) (p := ⟨D, k, none⟩) rfl _
  · exact Kpt.refl _ w
/-- The disk's own block alone has turned: numbers and marks. -/
theorem IsDk.turn {base : Nat} {w w' : World} {D : Nat} {vs vn vw : Value} {d d' : Dk} (hD : base ≤ D) (hr : w.heap[D]? = some (.cells (dkC vs vn vw d) 74 (0, 0))) (hp : Prt Q base w d vs vn vw) (ho : d.ok) (k : Kpt (fun b => b = D) w w')
    (hr' : w'.heap[D]? = some (.cells (dkC vs vn vw d') 74 (0, 0))) (h1 : d'.safe = d.safe) (h2 : d'.now = d.now) (h3 : d'.wn = d.wn) (h4 : d'.wd = d.wd) : IsDk Q base w' D (foot D vs vn vw) d' := by
  obtain ⟨safe, now, wn, wd, c, dn, a1, a2, a3, a4⟩ := d
  obtain ⟨safe', now', wn', wd', c', dn', a1', a2', a3', a4'⟩ := d'
  simp only at h1 h2 h3 h4
  subst h1 h2 h3 h4
  have hT : ∀ b, b = D → ¬ U8 w b := by rintro b rfl; exact row_not_u8 hr (by decide)
  have nD : ∀ (v : Value) (n size : Nat) (e : TypeId) (xs : List Value), w.ownsRow base e size v n xs → e ≠ 74 → ∀ b, v.ownBlock = some b → ¬ b = D := by
    rintro v n size e xs hown he b hb rfl
    obtain ⟨_, _, cs, hrow⟩ := own_row hown hb
    rw [hr] at hrow
    simp only [Option.some.injEq, Obj.cells.injEq] at hrow
    exact he hrow.2.1.symm
  have hp2 := hp.kpt k hT (by obtain ⟨xs, gs, cs, _, q, _⟩ := hp.s; exact nD _ _ _ _ _ q (by decide)) (by obtain ⟨xs, gs, cs, _, q, _⟩ := hp.n; exact nD _ _ _ _ _ q (by decide)) (by obtain ⟨xs, q, _⟩ := hp.w; exact nD _ _ _ _ _ q (by decide))
  exact ⟨vs, vn, vw, rfl, hD, hr', ⟨hp2.s, hp2.n, hp2.w, hp2.ne⟩, ⟨ho.len, ho.pos, ho.max, ho.wlen, ho.wmax, ho.win, ho.s4, ho.n4, ho.w4⟩⟩
theorem stopped_is {base : Nat} (w : World) (D : Nat) {S : Nat → Prop} {d : Dk} (h : IsDk Q base w D S d) :
    Calls Try.prog 43 #[ptr D] w fun e w' => e = .returned (.int .i64 d.stopE) ∧ IsDk Q base w' D S d.stopD ∧ Kpt (fun b => b = D) w w' := by
  unfold ptr at *
  have H := h
  obtain ⟨vs, gn, cn, vw, rfl, hD, hr, hp, ho⟩ := h.open_
  obtain ⟨-, -, -, -, c4, c5, c6, c7, c8⟩ := nine hr
  by_cases hdn : d.down = true
  · have e1 : d.stopE = 6 := by simp [Dk.stopE, hdn]
    have e2 : d.stopD = d := by simp [Dk.stopD, hdn]
    rw [e1, e2]
    clear e1 e2
    rw [hdn] at c4
    clear hr hp ho
    have HH := hid H
    clear H
    go_enter Try.func43, Try.ntmps43
    go_wp2
    go_ret
    exact ⟨rfl, HH.out, Kpt.refl _ _⟩
  · have hdn' : d.down = false := by simpa using hdn
    have hrd : w.drew.heap[D]? = some (.cells #[vs, .slice (some ⟨gn, 0, none⟩) d.now.length cn, vw, .int .i64 d.count, .bool d.down, .bool d.aon, .int .i64 d.aleft, .bool d.fon, .int .i64 d.fleft] 74 (0, 0)) := hr
    have r7 : (gW w.drew D 7 d.fon d.fleft).heap[D]? = some (.cells #[vs, .slice (some ⟨gn, 0, none⟩) d.now.length cn, vw, .int .i64 d.count, .bool d.down, .bool d.aon, .int .i64 d.aleft, .bool (gOn d.fon d.fleft), .int .i64 (gLeft d.fon d.fleft)] 74 (0, 0)) := gW_row hrd rfl rfl
    have r5 : (gW w.drew D 5 d.aon d.aleft).heap[D]? = some (.cells #[vs, .slice (some ⟨gn, 0, none⟩) d.now.length cn, vw, .int .i64 d.count, .bool d.down, .bool (gOn d.aon d.aleft), .int .i64 (gLeft d.aon d.aleft), .bool d.fon, .int .i64 d.fleft] 74 (0, 0)) := gW_row hrd rfl rfl
    have r75 : (gW (gW w.drew D 7 d.fon d.fleft) D 5 d.aon d.aleft).heap[D]? = some (.cells #[vs, .slice (some ⟨gn, 0, none⟩) d.now.length cn, vw, .int .i64 d.count, .bool d.down, .bool (gOn d.aon d.aleft), .int .i64 (gLeft d.aon d.aleft), .bool (gOn d.fon d.fleft), .int .i64 (gLeft d.fon d.fleft)] 74 (0, 0)) := gW_row r7 rfl rfl
    have r57 : (gW (gW w.drew D 5 d.aon d.aleft) D 7 d.fon d.fleft).heap[D]? = some (.cells #[vs, .slice (some ⟨gn, 0, none⟩) d.now.length cn, vw, .int .i64 d.count, .bool d.down, .bool (gOn d.aon d.aleft), .int .i64 (gLeft d.aon d.aleft), .bool (gOn d.fon d.fleft), .int .i64 (gLeft d.fon d.fleft)] 74 (0, 0)) := gW_row r5 rfl rfl
    have k75 : Kpt (fun b => b = D) w (gW (gW w.drew D 7 d.fon d.fleft) D 5 d.aon d.aleft) := (kpt_drew _ w).trans ((gW_kpt _ _ _ _ _).trans (gW_kpt _ _ _ _ _))
    have k57 : Kpt (fun b => b = D) w (gW (gW w.drew D 5 d.aon d.aleft) D 7 d.fon d.fleft) := (kpt_drew _ w).trans ((gW_kpt _ _ _ _ _).trans (gW_kpt _ _ _ _ _))
    have F7 := stops_any w.drew D 7 d.fon d.fleft c7 c8 (frow hrd 7) (frow hrd 8)
    have F5 := stops_any w.drew D 5 d.aon d.aleft c5 c6 (frow hrd 5) (frow hrd 6)
    obtain ⟨-, -, -, -, -, u5, u6, -, -⟩ := nine r7
    obtain ⟨-, -, -, -, -, -, -, u7, u8⟩ := nine r5
    have F75 := stops_any _ D 5 d.aon d.aleft u5 u6 (frow r7 5) (frow r7 6)
    have F57 := stops_any _ D 7 d.fon d.fleft u7 u8 (frow r5 7) (frow r5 8)
    have X : ∀ W, W.heap[D]? = some (.cells #[vs, .slice (some ⟨gn, 0, none⟩) d.now.length cn, vw, .int .i64 d.count, .bool d.down, .bool (gOn d.aon d.aleft), .int .i64 (gLeft d.aon d.aleft), .bool (gOn d.fon d.fleft), .int .i64 (gLeft d.fon d.fleft)] 74 (0, 0)) → Kpt (fun b => b = D) w W →
        (gStop d.aon d.aleft = false → IsDk Q base W D (foot D vs (.slice (some ⟨gn, 0, none⟩) d.now.length cn) vw) d.stopD) ∧ (gStop d.aon d.aleft = true → IsDk Q base (W.setCell ⟨D, 4, none⟩ (.bool true)) D (foot D vs (.slice (some ⟨gn, 0, none⟩) d.now.length cn) vw) d.stopD) ∧ Kpt (fun b => b = D) w (W.setCell ⟨D, 4, none⟩ (.bool true)) := by
      intro W hW hk
      have hk2 : Kpt (fun b => b = D) w (W.setCell ⟨D, 4, none⟩ (.bool true)) := Kpt.setCell (S := fun b => b = D) hk (p := ⟨D, 4, none⟩) rfl _
      refine ⟨fun e => ?_, fun e => ?_, hk2⟩
      · refine IsDk.turn hD hr hp ho hk (d' := d.stopD) ?_ ?_ ?_ ?_ ?_
        all_goals simp only [Dk.stopD, hdn', e, Bool.false_eq_true, if_false]
        · exact hW
        all_goals rfl
      · refine IsDk.turn hD hr hp ho hk2 (d' := d.stopD) ?_ ?_ ?_ ?_ ?_
        all_goals simp only [Dk.stopD, hdn', e, Bool.false_eq_true, if_false, if_true]
        · exact heap_setCell_same _ _ _ _ _ _ hW
        all_goals rfl
    have X1 := hid (X _ r75 k75)
    have X2 := hid (X _ r57 k57)
    have e1 : d.stopE = if gStop d.aon d.aleft then 6 else if gStop d.fon d.fleft then 4 else 0 := by simp [Dk.stopE, hdn']
    have e1 := hid e1
    have K1 := hid k75
    have K2 := hid k57
    obtain ⟨-, -, -, -, v4, -⟩ := nine r75
    obtain ⟨-, -, -, -, z4, -⟩ := nine r57
    have fv := frow r75 4
    have fz := frow r57 4
    rw [hdn'] at c4
    clear hr hp ho H h X u5 u6 u7 u8 r7 r5 r75 r57 hrd c5 c6 c7 c8 k75 k57
    generalize d.stopD = D2 at *
    generalize d.stopE = E2 at *
    go_enter Try.func43, Try.ntmps43
    go_wp2_with fail
    go_region_with (first
      | (go_at_call 60; (with_reducible refine F7.mono ?_); rintro e w1 ⟨rfl, rfl⟩)
      | (go_at_call 60; (with_reducible refine F5.mono ?_); rintro e w1 ⟨rfl, rfl⟩)
      | (go_at_call 60; (with_reducible refine F75.mono ?_); rintro e w1 ⟨rfl, rfl⟩)
      | (go_at_call 60; (with_reducible refine F57.mono ?_); rintro e w1 ⟨rfl, rfl⟩))
    all_goals
      rcases hs : gStop d.aon d.aleft
      · rcases ht : gStop d.fon d.fleft
        · go_wp2
          go_ret
          rw [e1.out, hs, ht]
          first | exact ⟨rfl, X1.out.1 hs, K1.out⟩ | exact ⟨rfl, X2.out.1 hs, K2.out⟩
        · go_wp2
          go_ret
          rw [e1.out, hs, ht]
          first | exact ⟨rfl, X1.out.1 hs, K1.out⟩ | exact ⟨rfl, X2.out.1 hs, K2.out⟩
      · go_wp2
        go_ret
        rw [e1.out, hs]
        first | exact ⟨rfl, X1.out.2.1 hs, X1.out.2.2⟩ | exact ⟨rfl, X2.out.2.1 hs, X2.out.2.2⟩
end Go.Proofs.Ytddejjmebokgiaa
