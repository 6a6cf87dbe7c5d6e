/- The disk's small functions. -/
import Derived.Test.YtddejjmebokgiaaDkClone
namespace Go.Proofs.Ytddejjmebokgiaa
open Go.RowKit
variable {Q : Nat → Prop}
set_option maxHeartbeats 3200000
set_option maxRecDepth 100000
set_option linter.unusedVariables false
set_option linter.unusedSimpArgs false

def ptr (D : Nat) : Value := .pointer (some ⟨D, 0, none⟩)
theorem none_row (w : World) (D n c : Nat) (A : Option Addr) (x0 x2 x3 x4 x5 x6 x7 x8 : Value) (t : TypeId) (h : w.heap[D]? = some (.cells #[x0, .slice A n c, x2, x3, x4, x5, x6, x7, x8] t (0, 0))) :
    Calls Try.prog 37 #[.pointer (some ⟨D, 0, none⟩)] w fun e w' => e = .returned (.bool (decide (n = 0))) ∧ w = w' := by
  obtain ⟨-, c1, -⟩ := nine h
  go_enter Try.func37, Try.ntmps37
  go_wp2
  go_ret
  have e : ((n : Int) == 0) = decide (n = 0) := by rw [Bool.eq_iff_iff]; simp
  exact ⟨congrArg (fun b => Ending.returned (.bool b)) e, rfl⟩
theorem none_nil (w : World) :
    Calls Try.prog 37 #[.pointer none] w fun e w' => e = .returned (.bool true) ∧ w = w' := by
  go_enter Try.func37, Try.ntmps37
  go_wp2
  go_ret
  exact ⟨rfl, rfl⟩
/-- A disk's row, opened. -/
theorem IsDk.open_ {base : Nat} {w : World} {D : Nat} {S : Nat → Prop} {d : Dk} (h : IsDk Q base w D S d) :
    ∃ vs gn cn vw, S = foot D vs (.slice (some ⟨gn, 0, none⟩) d.now.length cn) vw ∧ base ≤ D ∧ w.heap[D]? = some (.cells #[vs, .slice (some ⟨gn, 0, none⟩) d.now.length cn, vw, .int .i64 d.count, .bool d.down, .bool d.aon, .int .i64 d.aleft, .bool d.fon, .int .i64 d.fleft] 74 (0, 0)) ∧ Prt Q base w d vs (.slice (some ⟨gn, 0, none⟩) d.now.length cn) vw ∧ d.ok := by
  obtain ⟨vs, vn, vw, rfl, hD, hr, hp, ho⟩ := h
  obtain ⟨xn, gn, cn, rfl, b2, b3⟩ := hp.n
  exact ⟨vs, gn, cn, vw, rfl, hD, hr, hp, ho⟩
theorem none_is {base : Nat} (w : World) (D : Nat) {S : Nat → Prop} {d : Dk} (h : IsDk Q base w D S d) :
    Calls Try.prog 37 #[ptr D] w fun e w' => e = .returned (.bool false) ∧ w = w' := by
  obtain ⟨vs, gn, cn, vw, rfl, hD, hr, hp, ho⟩ := h.open_
  refine (none_row w D _ _ _ _ _ _ _ _ _ _ _ _ hr).mono ?_
  rintro e w' ⟨rfl, rfl⟩
  have := ho.pos
  exact ⟨by rw [decide_eq_false (by omega)], rfl⟩
theorem Size_is {base : Nat} (w : World) (D : Nat) {S : Nat → Prop} {d : Dk} (h : IsDk Q base w D S d) :
    Calls Try.prog 23 #[ptr D] w fun e w' => e = .returned (.int .i64 (d.now.length : Int)) ∧ w = w' := by
  have hn := fun w => none_is (Q := Q) (base := base) w D (S := S) (d := d)
  unfold ptr at *
  have H := h
  obtain ⟨vs, gn, cn, vw, rfl, hD, hr, hp, ho⟩ := h.open_
  obtain ⟨-, c1, -⟩ := nine hr
  go_enter Try.func23, Try.ntmps23
  go_wp2_with fail
  refine (hn _ H).mono ?_
  rintro e w' ⟨rfl, rfl⟩
  go_wp2
  go_ret
  exact ⟨rfl, rfl⟩
theorem Writes_is {base : Nat} (w : World) (D : Nat) {S : Nat → Prop} {d : Dk} (h : IsDk Q base w D S d) :
    Calls Try.prog 28 #[ptr D] w fun e w' => e = .returned (.int .i64 d.count) ∧ w = w' := by
  have hn := fun w => none_is (Q := Q) (base := base) w D (S := S) (d := d)
  unfold ptr at *
  have H := h
  obtain ⟨vs, gn, cn, vw, rfl, hD, hr, hp, ho⟩ := h.open_
  obtain ⟨-, -, -, c3, -⟩ := nine hr
  go_enter Try.func28, Try.ntmps28
  go_wp2_with fail
  refine (hn _ H).mono ?_
  rintro e w' ⟨rfl, rfl⟩
  go_wp2
  go_ret
  exact ⟨rfl, rfl⟩
def Dk.wrong (d : Dk) (n : Int) : Int := if n < 0 ∨ (d.now.length : Int) ≤ n then 70 else 0
theorem wrong_is {base : Nat} (w : World) (D : Nat) {S : Nat → Prop} {d : Dk} (h : IsDk Q base w D S d) (n : Int) :
    Calls Try.prog 40 #[ptr D, .int .i64 n] w fun e w' => e = .returned (.int .i64 (d.wrong n)) ∧ w = w' := by
  have hn := fun w => none_is (Q := Q) (base := base) w D (S := S) (d := d)
  unfold ptr at *
  have H := h
  obtain ⟨vs, gn, cn, vw, rfl, hD, hr, hp, ho⟩ := h.open_
  obtain ⟨-, c1, -⟩ := nine hr
  unfold Dk.wrong
  generalize d.now.length = N at *
  by_cases h1 : n < 0
  · go_enter Try.func40, Try.ntmps40
    go_wp2_with fail
    refine (hn _ H).mono ?_
    rintro e w' ⟨rfl, rfl⟩
    go_wp2
    go_ret
    exact ⟨by simp [h1], rfl⟩
  · by_cases h2 : (N : Int) ≤ n
    · go_enter Try.func40, Try.ntmps40
      go_wp2_with fail
      refine (hn _ H).mono ?_
      rintro e w' ⟨rfl, rfl⟩
      go_wp2
      go_ret
      exact ⟨by simp [h1, h2], rfl⟩
    · go_enter Try.func40, Try.ntmps40
      go_wp2_with fail
      refine (hn _ H).mono ?_
      rintro e w' ⟨rfl, rfl⟩
      go_wp2
      go_ret
      exact ⟨by simp [h1, h2], rfl⟩
end Go.Proofs.Ytddejjmebokgiaa
