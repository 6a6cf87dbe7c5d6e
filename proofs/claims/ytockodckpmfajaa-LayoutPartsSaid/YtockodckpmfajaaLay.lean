/- Package layout, and the document's: the walks. -/
import Derived.Test.YtockodckpmfajaaBase
namespace Go.Proofs.Ytockodckpmfajaa
open Go.RowKit
set_option maxHeartbeats 800000
set_option linter.unusedVariables false
set_option linter.unusedSimpArgs false

/-- A layout. -/
structure Lay where
  bl : Int
  lg : Int
  lb : Int
  bi : Int
  ino : Int
  ib : Int
  da : Int
deriving DecidableEq
def Lay.val (l : Lay) : Value := .agg #[.int .i64 l.bl, .int .i64 l.lg, .int .i64 l.lb, .int .i64 l.bi, .int .i64 l.ino, .int .i64 l.ib, .int .i64 l.da]
/-- Blocks of the ring. -/
def ringL (n : Int) : Int := max 16 (n / 8)
theorem ringL_bd {n : Int} (h1 : 64 ≤ n) (h2 : n ≤ 512) : 16 ≤ ringL n ∧ ringL n ≤ 64 ∧ (ringL n = 16 ∨ ringL n = n / 8) := by unfold ringL; omega
def okN (n : Int) : Bool := decide (64 ≤ n ∧ n ≤ 512)
def ofL (n : Int) : Lay := if okN n then ⟨n, 2, ringL n, 2 + ringL n, 2 + ringL n + 1, n / 16, 2 + ringL n + 1 + n / 16⟩ else ⟨0, 0, 0, 0, 0, 0, 0⟩
def errN (n : Int) : Int := if okN n then 0 else 2

theorem Of_any (w : World) (n : Int) :
    Calls Try.prog 6 #[.int .i64 n] w fun e w' => e = .returned (.tuple #[(ofL n).val, .int .i64 (errN n)]) ∧ Below w.heap.size w w' := by
  by_cases h1 : n < 64
  · have HH := hid (show ofL n = ⟨0, 0, 0, 0, 0, 0, 0⟩ ∧ errN n = 2 by simp [ofL, errN, okN]; omega)
    go_enter Try.func6, Try.ntmps6
    go_wp2
    rw [HH.out.1, HH.out.2]
    exact bodyPost_ret (v := .tuple #[(⟨0, 0, 0, 0, 0, 0, 0⟩ : Lay).val, .int .i64 2]) (by simp [results, Try.results6, go_sem, Lay.val]) rfl ⟨rfl, (Below.refl _ _).alloc (Nat.le_refl _) _⟩
  · by_cases h2 : 512 < n
    · have HH := hid (show ofL n = ⟨0, 0, 0, 0, 0, 0, 0⟩ ∧ errN n = 2 by simp [ofL, errN, okN]; omega)
      go_enter Try.func6, Try.ntmps6
      go_wp2
      rw [HH.out.1, HH.out.2]
      exact bodyPost_ret (v := .tuple #[(⟨0, 0, 0, 0, 0, 0, 0⟩ : Lay).val, .int .i64 2]) (by simp [results, Try.results6, go_sem, Lay.val]) rfl ⟨rfl, (Below.refl _ _).alloc (Nat.le_refl _) _⟩
    · have h64 : 64 ≤ n := by omega
      have h512 : n ≤ 512 := by omega
      have HH := hid (show ofL n = ⟨n, 2, ringL n, 2 + ringL n, 2 + ringL n + 1, n / 16, 2 + ringL n + 1 + n / 16⟩ ∧ errN n = 0 by simp [ofL, errN, okN, h64, h512])
      go_enter Try.func6, Try.ntmps6
      go_wp2
      all_goals
        first
        | (have hr : ringL n = 16 := by unfold ringL; omega
           rw [HH.out.1, HH.out.2, hr]
           exact bodyPost_ret (v := .tuple #[(⟨n, 2, 16, 2 + 16, 2 + 16 + 1, n / 16, 2 + 16 + 1 + n / 16⟩ : Lay).val, .int .i64 0]) (by simp [results, Try.results6, go_sem, Lay.val]) rfl ⟨rfl, ((Below.refl _ _).alloc (Nat.le_refl _) _).alloc (by simp) _⟩)
        | (have hr : ringL n = n / 8 := by unfold ringL; omega
           rw [HH.out.1, HH.out.2, hr]
           exact bodyPost_ret (v := .tuple #[(⟨n, 2, n / 8, 2 + n / 8, 2 + n / 8 + 1, n / 16, 2 + n / 8 + 1 + n / 16⟩ : Lay).val, .int .i64 0]) (by simp [results, Try.results6, go_sem, Lay.val]) rfl ⟨rfl, ((Below.refl _ _).alloc (Nat.le_refl _) _).alloc (by simp) _⟩)
theorem refOf_any (w : World) (n : Int) :
    Calls Try.prog 10 #[.int .i64 n] w fun e w' => e = .returned (.tuple #[(ofL n).val, .int .i64 (errN n)]) ∧ Below w.heap.size w w' := by
  by_cases h1 : n < 64
  · have HH := hid (show ofL n = ⟨0, 0, 0, 0, 0, 0, 0⟩ ∧ errN n = 2 by simp [ofL, errN, okN]; omega)
    go_enter Try.func10, Try.ntmps10
    go_wp2
    rw [HH.out.1, HH.out.2]
    exact bodyPost_ret (v := .tuple #[(⟨0, 0, 0, 0, 0, 0, 0⟩ : Lay).val, .int .i64 2]) (by simp [results, Try.results10, go_sem, Lay.val]) rfl ⟨rfl, (Below.refl _ _).alloc (Nat.le_refl _) _⟩
  · by_cases h2 : 512 < n
    · have HH := hid (show ofL n = ⟨0, 0, 0, 0, 0, 0, 0⟩ ∧ errN n = 2 by simp [ofL, errN, okN]; omega)
      go_enter Try.func10, Try.ntmps10
      go_wp2
      rw [HH.out.1, HH.out.2]
      exact bodyPost_ret (v := .tuple #[(⟨0, 0, 0, 0, 0, 0, 0⟩ : Lay).val, .int .i64 2]) (by simp [results, Try.results10, go_sem, Lay.val]) rfl ⟨rfl, (Below.refl _ _).alloc (Nat.le_refl _) _⟩
    · have h64 : 64 ≤ n := by omega
      have h512 : n ≤ 512 := by omega
      have HH := hid (show ofL n = ⟨n, 2, ringL n, 2 + ringL n, 2 + ringL n + 1, n / 16, 2 + ringL n + 1 + n / 16⟩ ∧ errN n = 0 by simp [ofL, errN, okN, h64, h512])
      go_enter Try.func10, Try.ntmps10
      go_wp2
      all_goals
        first
        | (have hr : ringL n = 16 := by unfold ringL; omega
           rw [HH.out.1, HH.out.2, hr]
           exact bodyPost_ret (v := .tuple #[(⟨n, 2, 16, 2 + 16, 2 + 16 + 1, n / 16, 2 + 16 + 1 + n / 16⟩ : Lay).val, .int .i64 0]) (by simp [results, Try.results10, go_sem, Lay.val]) rfl ⟨rfl, ((Below.refl _ _).alloc (Nat.le_refl _) _).alloc (by simp) _⟩)
        | (have hr : ringL n = n / 8 := by unfold ringL; omega
           rw [HH.out.1, HH.out.2, hr]
           exact bodyPost_ret (v := .tuple #[(⟨n, 2, n / 8, 2 + n / 8, 2 + n / 8 + 1, n / 16, 2 + n / 8 + 1 + n / 16⟩ : Lay).val, .int .i64 0]) (by simp [results, Try.results10, go_sem, Lay.val]) rfl ⟨rfl, ((Below.refl _ _).alloc (Nat.le_refl _) _).alloc (by simp) _⟩)
def rightL (l : Lay) : Bool := okN l.bl && decide (ofL l.bl = l)
/-- A cell of a block that is known, behind what was made since. -/
theorem cell_kept' {w : World} {g : Nat} {cs : Array Value} {t : TypeId} (h : w.heap[g]? = some (.cells cs t (0, 0))) (j : Nat) (v : Value) (hj : cs[j]? = some v) (o : Obj) : (w.alloc o).cell? ⟨g, j, none⟩ = some v := by
  have hlt : g < w.heap.size := by
    rcases Nat.lt_or_ge g w.heap.size with h' | h'
    · exact h'
    · rw [Array.getElem?_eq_none h'] at h; cases h
  rw [cell_of_row _ _ _ cs t (0, 0) ((heap_alloc_old w o hlt).trans h)]
  exact hj
theorem right_any (w : World) (l : Lay) :
    Calls Try.prog 14 #[l.val] w fun e w' => e = .returned (.bool (rightL l)) ∧ Below w.heap.size w w' := by
  have hof := fun w => Of_any w l.bl
  have hE := hid (show errN l.bl = if okN l.bl then 0 else 2 from rfl)
  obtain ⟨ok, hok⟩ : ∃ ok, ok = okN l.bl := ⟨_, rfl⟩
  have hR := hid (show rightL l = (okN l.bl && decide (ofL l.bl = l)) from rfl)
  rw [← hok] at hE hR
  obtain ⟨e, he⟩ : ∃ e, e = errN l.bl := ⟨_, rfl⟩
  obtain ⟨o, ho⟩ : ∃ o, o = ofL l.bl := ⟨_, rfl⟩
  rw [← ho] at hR hof
  rw [← he] at hE
  rw [← he] at hof
  clear he hok ho
  obtain ⟨a, b, c, d, f, g, k⟩ := l
  obtain ⟨a', b', c', d', f', g', k'⟩ := o
  simp only [Lay.val] at hof ⊢
  cases ok with
  | false =>
    have he := hE.out
    simp only [Bool.false_eq_true, if_false] at he
    subst he
    go_enter Try.func14, Try.ntmps14
    go_wp2_with fail
    refine (hof _).mono ?_
    rintro e w1 ⟨rfl, b1⟩
    have bw := ((Below.refl _ w).alloc (Nat.le_refl _) _).trans (b1.mono (by simp))
    clear b1
    go_wp2
    go_ret
    exact ⟨by rw [hR.out]; rfl, bw.alloc bw.size _⟩
  | true =>
    have he := hE.out
    simp only [if_true] at he
    subst he
    go_enter Try.func14, Try.ntmps14
    go_wp2_with fail
    refine (hof _).mono ?_
    rintro e w1 ⟨rfl, b1⟩
    have hg := (b1.block w.heap.size (by simp)).trans (heap_alloc_new w _)
    have c0 := cell_kept' hg 0 _ rfl
    have c1 := cell_kept' hg 1 _ rfl
    have c2 := cell_kept' hg 2 _ rfl
    have c3 := cell_kept' hg 3 _ rfl
    have c4 := cell_kept' hg 4 _ rfl
    have c5 := cell_kept' hg 5 _ rfl
    have c6 := cell_kept' hg 6 _ rfl
    have bw := ((Below.refl _ w).alloc (Nat.le_refl _) _).trans (b1.mono (by simp))
    clear hg b1
    go_wp2
    all_goals
      go_ret
      refine ⟨?_, bw.alloc bw.size _⟩
      rw [hR.out]
      show Ending.returned (Value.bool _) = Ending.returned (Value.bool _)
      congr 2
      rw [Bool.true_and]
      first
      | (refine (decide_eq_true ?_).symm; rw [Lay.mk.injEq]; omega)
      | (refine (decide_eq_false ?_).symm; rw [Lay.mk.injEq]; omega)
theorem refRight_any (w : World) (l : Lay) :
    Calls Try.prog 15 #[l.val] w fun e w' => e = .returned (.bool (rightL l)) ∧ Below w.heap.size w w' := by
  have hof := fun w => refOf_any w l.bl
  have hE := hid (show errN l.bl = if okN l.bl then 0 else 2 from rfl)
  obtain ⟨ok, hok⟩ : ∃ ok, ok = okN l.bl := ⟨_, rfl⟩
  have hR := hid (show rightL l = (okN l.bl && decide (ofL l.bl = l)) from rfl)
  rw [← hok] at hE hR
  obtain ⟨e, he⟩ : ∃ e, e = errN l.bl := ⟨_, rfl⟩
  obtain ⟨o, ho⟩ : ∃ o, o = ofL l.bl := ⟨_, rfl⟩
  rw [← ho] at hR hof
  rw [← he] at hE
  rw [← he] at hof
  clear he hok ho
  obtain ⟨a, b, c, d, f, g, k⟩ := l
  obtain ⟨a', b', c', d', f', g', k'⟩ := o
  simp only [Lay.val] at hof ⊢
  cases ok with
  | false =>
    have he := hE.out
    simp only [Bool.false_eq_true, if_false] at he
    subst he
    go_enter Try.func15, Try.ntmps15
    go_wp2_with fail
    refine (hof _).mono ?_
    rintro e w1 ⟨rfl, b1⟩
    have bw := ((Below.refl _ w).alloc (Nat.le_refl _) _).trans (b1.mono (by simp))
    clear b1
    go_wp2
    go_ret
    exact ⟨by rw [hR.out]; rfl, bw.alloc bw.size _⟩
  | true =>
    have he := hE.out
    simp only [if_true] at he
    subst he
    go_enter Try.func15, Try.ntmps15
    go_wp2_with fail
    refine (hof _).mono ?_
    rintro e w1 ⟨rfl, b1⟩
    have hg := (b1.block w.heap.size (by simp)).trans (heap_alloc_new w _)
    have c0 := cell_kept' hg 0 _ rfl
    have c1 := cell_kept' hg 1 _ rfl
    have c2 := cell_kept' hg 2 _ rfl
    have c3 := cell_kept' hg 3 _ rfl
    have c4 := cell_kept' hg 4 _ rfl
    have c5 := cell_kept' hg 5 _ rfl
    have c6 := cell_kept' hg 6 _ rfl
    have bw := ((Below.refl _ w).alloc (Nat.le_refl _) _).trans (b1.mono (by simp))
    clear hg b1
    go_wp2
    all_goals
      go_ret
      refine ⟨?_, bw.alloc bw.size _⟩
      rw [hR.out]
      show Ending.returned (Value.bool _) = Ending.returned (Value.bool _)
      congr 2
      rw [Bool.true_and]
      first
      | (refine (decide_eq_true ?_).symm; rw [Lay.mk.injEq]; omega)
      | (refine (decide_eq_false ?_).symm; rw [Lay.mk.injEq]; omega)
end Go.Proofs.Ytockodckpmfajaa
