/- Arm, Fail, Read. -/
import Derived.Test.YtddejjmebokgiaaDkM
namespace Go.Proofs.Ytddejjmebokgiaa
open Go.RowKit
variable {Q : Nat → Prop}
set_option maxHeartbeats 3200000
set_option maxRecDepth 100000
set_option linter.unusedVariables false
set_option linter.unusedSimpArgs false

theorem armed_any (w : World) (p : Option Addr) (D k : Nat) (n : Int) (x y : Value) (h1 : w.cell? ⟨D, k, none⟩ = some x) (h2 : w.cell? ⟨D, k + 1, none⟩ = some y) (f1 : w.frozen? ⟨D, k, none⟩ = false) (f2 : w.frozen? ⟨D, k + 1, none⟩ = false) :
    Calls Try.prog 48 #[.pointer p, .pointer (some ⟨D, k, none⟩), .int .i64 n] w fun e w' => e = .returned (.int .i64 (if n < 0 then 2 else 0)) ∧ w' = if n < 0 then w else (w.setCell ⟨D, k, none⟩ (.bool true)).setCell ⟨D, k + 1, none⟩ (.int .i64 n) := by
  by_cases hn : n < 0
  · go_enter Try.func48, Try.ntmps48
    go_wp2
    go_ret
    simp [hn]
  · go_enter Try.func48, Try.ntmps48
    go_wp2
    go_ret
    simp [hn]
def Dk.arm (d : Dk) (n : Int) : Dk := if n < 0 then d else { d with aon := true, aleft := n }
def Dk.fail (d : Dk) (n : Int) : Dk := if n < 0 then d else { d with fon := true, fleft := n }
theorem Arm_is {base : Nat} (w : World) (D : Nat) {S : Nat → Prop} {d : Dk} (h : IsDk Q base w D S d) (n : Int) :
    Calls Try.prog 30 #[ptr D, .int .i64 n] w fun e w' => e = .returned (.int .i64 (if n < 0 then 2 else 0)) ∧ IsDk Q base w' D S (d.arm n) ∧ Kpt (fun b => b = D) w w' := by
  have hn := fun w => none_is (Q := Q) (base := base) w D (S := S) (d := d)
  unfold ptr at *
  have H := h
  obtain ⟨vs, gn, cn, vw, rfl, hD, hr, hp, ho⟩ := h.open_
  obtain ⟨-, -, -, -, -, c5, c6, -, -⟩ := nine hr
  have F := armed_any w (some ⟨D, 0, none⟩) D 5 n _ _ c5 c6 (frow hr 5) (frow hr 6)
  have X : IsDk Q base (if n < 0 then w else (w.setCell ⟨D, 5, none⟩ (.bool true)).setCell ⟨D, 6, none⟩ (.int .i64 n)) D (foot D vs (.slice (some ⟨gn, 0, none⟩) d.now.length cn) vw) (d.arm n) ∧ Kpt (fun b => b = D) w (if n < 0 then w else (w.setCell ⟨D, 5, none⟩ (.bool true)).setCell ⟨D, 6, none⟩ (.int .i64 n)) := by
    unfold Dk.arm
    split
    · exact ⟨H, Kpt.refl _ _⟩
    · have kk : Kpt (fun b => b = D) w ((w.setCell ⟨D, 5, none⟩ (.bool true)).setCell ⟨D, 6, none⟩ (.int .i64 n)) := (kpt_one _).trans (kpt_one _)
      exact ⟨IsDk.turn hD hr hp ho kk (heap_setCell_same _ _ _ _ _ _ (heap_setCell_same _ _ _ _ _ _ hr)) rfl rfl rfl rfl, kk⟩
  have XX := hid X
  clear X hp ho c5 c6 hr
  generalize d.arm n = D2 at *
  generalize hW : (if n < 0 then w else (w.setCell ⟨D, 5, none⟩ (.bool true)).setCell ⟨D, 6, none⟩ (.int .i64 n)) = W2 at *
  have HW := hid hW
  clear hW
  generalize (if n < 0 then (2 : Int) else 0) = E2 at F ⊢
  go_enter Try.func30, Try.ntmps30
  go_wp2_with fail
  refine (hn _ H).mono ?_
  rintro e w' ⟨rfl, rfl⟩
  go_wp2_with fail
  refine F.mono ?_
  rintro e w' ⟨rfl, rfl⟩
  go_wp2
  go_ret
  exact ⟨rfl, XX.out⟩
theorem Fail_is {base : Nat} (w : World) (D : Nat) {S : Nat → Prop} {d : Dk} (h : IsDk Q base w D S d) (n : Int) :
    Calls Try.prog 31 #[ptr D, .int .i64 n] w fun e w' => e = .returned (.int .i64 (if n < 0 then 2 else 0)) ∧ IsDk Q base w' D S (d.fail n) ∧ Kpt (fun b => b = D) w w' := by
  have hn := fun w => none_is (Q := Q) (base := base) w D (S := S) (d := d)
  unfold ptr at *
  have H := h
  obtain ⟨vs, gn, cn, vw, rfl, hD, hr, hp, ho⟩ := h.open_
  obtain ⟨-, -, -, -, -, -, -, c7, c8⟩ := nine hr
  have F := armed_any w (some ⟨D, 0, none⟩) D 7 n _ _ c7 c8 (frow hr 7) (frow hr 8)
  have X : IsDk Q base (if n < 0 then w else (w.setCell ⟨D, 7, none⟩ (.bool true)).setCell ⟨D, 8, none⟩ (.int .i64 n)) D (foot D vs (.slice (some ⟨gn, 0, none⟩) d.now.length cn) vw) (d.fail n) ∧ Kpt (fun b => b = D) w (if n < 0 then w else (w.setCell ⟨D, 7, none⟩ (.bool true)).setCell ⟨D, 8, none⟩ (.int .i64 n)) := by
    unfold Dk.fail
    split
    · exact ⟨H, Kpt.refl _ _⟩
    · have kk : Kpt (fun b => b = D) w ((w.setCell ⟨D, 7, none⟩ (.bool true)).setCell ⟨D, 8, none⟩ (.int .i64 n)) := (kpt_one _).trans (kpt_one _)
      exact ⟨IsDk.turn hD hr hp ho kk (heap_setCell_same _ _ _ _ _ _ (heap_setCell_same _ _ _ _ _ _ hr)) rfl rfl rfl rfl, kk⟩
  have XX := hid X
  clear X hp ho c7 c8 hr
  generalize d.fail n = D2 at *
  generalize hW : (if n < 0 then w else (w.setCell ⟨D, 7, none⟩ (.bool true)).setCell ⟨D, 8, none⟩ (.int .i64 n)) = W2 at *
  have HW := hid hW
  clear hW
  generalize (if n < 0 then (2 : Int) else 0) = E2 at F ⊢
  go_enter Try.func31, Try.ntmps31
  go_wp2_with fail
  refine (hn _ H).mono ?_
  rintro e w' ⟨rfl, rfl⟩
  go_wp2_with fail
  refine F.mono ?_
  rintro e w' ⟨rfl, rfl⟩
  go_wp2
  go_ret
  exact ⟨rfl, XX.out⟩

def Dk.rdE (d : Dk) (n : Int) : Int := if d.wrong n ≠ 0 then d.wrong n else if d.down then 6 else 0
def Dk.rdB (d : Dk) (n : Int) : List UInt8 := if d.wrong n ≠ 0 then [] else if d.down then [] else d.now.getD n.toNat []
theorem wrong_in {d : Dk} {n : Int} (h : d.wrong n = 0) : 0 ≤ n ∧ n.toNat < d.now.length := by
  unfold Dk.wrong at h
  split at h
  · omega
  · omega
theorem Read_is {base : Nat} (w : World) (D : Nat) {S : Nat → Prop} {d : Dk} (h : IsDk Q base w D S d) (n : Int) :
    Calls Try.prog 12 #[ptr D, .int .i64 n] w fun e w' => ∃ A c, e = .returned (.tuple #[.slice A (d.rdB n).length c, .int .i64 (d.rdE n)]) ∧ OwnB w.heap.size w' A c (d.rdB n) ∧ Below w.heap.size w w' := by
  have hn := fun w => wrong_is (Q := Q) (base := base) w D (S := S) (d := d)
  unfold ptr at *
  have H := h
  obtain ⟨vs, gn, cn, vw, rfl, hD, hr, hp, ho⟩ := h.open_
  obtain ⟨-, c1, -, -, c4, -⟩ := nine hr
  unfold Dk.rdB Dk.rdE
  by_cases h0 : d.wrong n = 0
  · obtain ⟨h1, h2⟩ := wrong_in h0
    obtain ⟨m, rfl⟩ : ∃ m : Nat, n = m := ⟨n.toNat, by omega⟩
    simp only [Int.toNat_natCast] at h2 ⊢
    rw [h0]
    by_cases hdn : d.down = true
    · simp only [ne_eq, not_true, if_false, hdn, if_true]
      rw [hdn] at c4
      clear hp ho hr c1
      go_enter Try.func12, Try.ntmps12
      go_wp2_with fail
      refine (hn _ H _).mono ?_
      rw [h0]
      rintro e w' ⟨rfl, rfl⟩
      go_wp2
      refine bodyPost_ret (v := .tuple #[.slice none 0 0, .int .i64 6]) (by simp [results, Try.results12, go_sem]) rfl ⟨none, 0, rfl, OwnB.nil _ _, Below.refl _ _⟩
    · have hdn' : d.down = false := by simpa using hdn
      simp only [ne_eq, not_true, if_false, hdn, Bool.false_eq_true]
      rw [hdn'] at c4
      obtain ⟨xn, gn', cn', q1, q2, q3⟩ := hp.n
      simp only [Value.slice.injEq, Option.some.injEq, Addr.mk.injEq, and_true, true_and] at q1
      obtain ⟨rfl, rfl⟩ := q1
      obtain ⟨v, hv, hdat⟩ := q3.at_ h2
      obtain ⟨b, off, c, rfl, hrd, _⟩ := hdat.rd
      have hcell : w.cell? ⟨gn, m, none⟩ = some (.slice (some ⟨b, off, none⟩) d.now[m].length c) := by
        have := q2.cells (g := gn) rfl m _ hv
        rwa [add_plain, Nat.zero_add] at this
      have hl4 : d.now[m].length = 4096 := ho.n4 _ (List.getElem_mem h2)
      have hg : d.now.getD m [] = d.now[m] := by simp [h2]
      rw [hg]
      have C := fun w (hr : RdB w (some ⟨b, off, none⟩) d.now[m]) => CloneB_any w b off c _ d.now[m] rfl (by omega) hr
      have H0 := hid h0
      clear hp ho hr q2 q3 hdat hv hg hl4
      generalize d.now[m] = L at *
      generalize d.now.length = N at *
      go_enter Try.func12, Try.ntmps12
      go_wp2_with fail
      refine (hn _ H _).mono ?_
      rw [H0.out]
      rintro e w' ⟨rfl, rfl⟩
      go_wp2_with fail
      refine (C _ hrd).mono ?_
      rintro e w1 ⟨A1, c1', rfl, g1, b1⟩
      go_wp2
      refine bodyPost_ret (v := .tuple #[.slice A1 L.length c1', .int .i64 0]) (by simp [results, Try.results12, go_sem]) rfl ⟨A1, c1', rfl, g1, b1⟩
  · rw [if_pos h0, if_pos h0]
    clear hp ho hr c1 c4
    go_enter Try.func12, Try.ntmps12
    go_wp2_with fail
    refine (hn _ H _).mono ?_
    rintro e w' ⟨rfl, rfl⟩
    go_wp2
    refine bodyPost_ret (v := .tuple #[.slice none 0 0, .int .i64 (d.wrong n)]) (by simp [results, Try.results12, go_sem]) rfl ⟨none, 0, rfl, OwnB.nil _ _, Below.refl _ _⟩
end Go.Proofs.Ytddejjmebokgiaa
