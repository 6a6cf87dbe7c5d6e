/- The document's PutInode. -/
import Derived.Test.YtjblpejekcbokaaInode
namespace Go.Proofs.Ytjblpejekcbokaa
open Go.RowKit
set_option maxHeartbeats 1600000
set_option linter.unusedVariables false
set_option linter.unusedSimpArgs false

theorem radd1_any (w : World) (a : Option Addr) (c N : Nat) (l : List UInt8) (v : Nat) (hN : l.length = N) (hl : N ≤ 1000) (hr : RdB w a l) (hv : v < 65536) :
    Calls Try.prog 41 #[.slice a N c, .int .i64 (v : Int), .int .i64 1] w fun e w' =>
      ∃ A c', e = .returned (.slice A (N + 1) c') ∧ OwnB w.heap.size w' A c' (l ++ be v 1) ∧ Below w.heap.size w w' :=
  radd_any w a c N l hN.symm v 1 _ _ rfl rfl (by omega) hr (by decide) (by omega)
theorem radd4_any (w : World) (a : Option Addr) (c N : Nat) (l : List UInt8) (v : Nat) (hN : l.length = N) (hl : N ≤ 1000) (hr : RdB w a l) (hv : v < 4294967296) :
    Calls Try.prog 41 #[.slice a N c, .int .i64 (v : Int), .int .i64 4] w fun e w' =>
      ∃ A c', e = .returned (.slice A (N + 4) c') ∧ OwnB w.heap.size w' A c' (l ++ be v 4) ∧ Below w.heap.size w w' :=
  radd_any w a c N l hN.symm v 4 _ _ rfl rfl (by omega) hr (by decide) (by omega)
theorem keep4' {v W : World} {p q r s : Addr} {a b c d : Value} (h : v.cell? p = some a ∧ v.cell? q = some b ∧ v.cell? r = some c ∧ v.cell? s = some d) (bl : Below v.heap.size v W) :
    W.cell? p = some a ∧ W.cell? q = some b ∧ W.cell? r = some c ∧ W.cell? s = some d := ⟨cell_below bl h.1, cell_below bl h.2.1, cell_below bl h.2.2.1, cell_below bl h.2.2.2⟩
set_option maxRecDepth 100000 in
theorem refPutInode_no (w : World) (n : Ind) (a : Option Addr) (c : Nat) (hi : n.in_) (hr : RdX w a n.dir) (hok : okInd n = false) :
    Calls Try.prog 15 #[n.val a c] w fun e w' => e = .returned (.tuple #[.slice none 0 0, .int .i64 2]) ∧ Below w.heap.size w w' := by
  obtain ⟨hk, h1, h2, h3, h4, h5⟩ := hi
  have H5 := hid h5; clear h5
  obtain ⟨k, ln, sz, nd, l⟩ := n
  simp only [Ind.val, indCells] at *
  have R := fun w hr => refRight_any w a c _ l rfl (by omega) hr H5.out
  by_cases hk0 : k = 0
  · subst hk0
    have hd : ¬ (ln = 0 ∧ sz = 0 ∧ nd = 0 ∧ l.length = 0) := by
      intro h
      rw [okInd_free rfl, decide_eq_true h] at hok
      cases hok
    have HD := hid hd
    clear hok hd R
    by_cases q1 : ln = 0
    rotate_left
    · have q1b : (ln == 0) = false := by rw [beq_eq_false_iff_ne]; exact q1
      clear HD
      go_enter Try.func15, Try.ntmps15
      go_wp2
      go_ret2
      exact ⟨rfl, (Below.refl _ w).alloc (Nat.le_refl _) _⟩
    subst q1
    by_cases q2 : sz = 0
    rotate_left
    · have q2b : (sz == 0) = false := by rw [beq_eq_false_iff_ne]; exact q2
      clear HD
      go_enter Try.func15, Try.ntmps15
      go_wp2
      go_ret2
      exact ⟨rfl, (Below.refl _ w).alloc (Nat.le_refl _) _⟩
    subst q2
    by_cases q3 : nd = 0
    rotate_left
    · have q3b : (nd == 0) = false := by rw [beq_eq_false_iff_ne]; exact q3
      clear HD
      go_enter Try.func15, Try.ntmps15
      go_wp2
      go_ret2
      exact ⟨rfl, (Below.refl _ w).alloc (Nat.le_refl _) _⟩
    subst q3
    have q4 : ((l.length : Int) == 0) = false := by rw [beq_eq_false_iff_ne]; have := HD.out; omega
    have q5 : ¬ l.length = 0 := by have := HD.out; omega
    clear HD
    go_enter Try.func15, Try.ntmps15
    go_wp2
    go_ret2
    exact ⟨rfl, (Below.refl _ w).alloc (Nat.le_refl _) _⟩
  · have hk1 : ((k : Int) == 0) = false := by rw [beq_eq_false_iff_ne]; omega
    rw [okInd_kind hk0] at hok
    by_cases hd : k ≤ 2 ∧ (0 ≤ ln ∧ ln ≤ 100) ∧ (0 ≤ sz ∧ sz ≤ 131072) ∧ (0 ≤ nd ∧ nd ≤ 511) ∧ l.length ≤ 3
    · rw [decide_eq_true hd, Bool.true_and] at hok
      rw [hok] at R
      obtain ⟨d1, ⟨d2, d3⟩, ⟨d4, d5⟩, ⟨d6, d7⟩, d8⟩ := hd
      clear hok hk0
      go_enter Try.func15, Try.ntmps15
      go_wp2_with fail
      refine (R _ (hr.below ((Below.refl _ w).alloc (Nat.le_refl _) _))).mono ?_
      rintro e w1 ⟨rfl, b1⟩
      have bw1 := ((Below.refl _ w).alloc (Nat.le_refl _) _).trans (b1.mono (by simp))
      go_wp2
      go_ret2
      exact ⟨rfl, bw1⟩
    · have HD := hid hd
      clear hok hd hk0 R
      by_cases q1 : k ≤ 2
      rotate_left
      · replace q1 := Int.not_le.1 (by omega : ¬ ((k : Int) ≤ 2))
        clear HD
        go_enter Try.func15, Try.ntmps15
        go_wp2
        go_ret2
        exact ⟨rfl, (Below.refl _ w).alloc (Nat.le_refl _) _⟩
      by_cases q2 : 0 ≤ ln
      rotate_left
      · replace q2 := Int.not_le.1 (by omega : ¬ (0 ≤ ln))
        clear HD
        go_enter Try.func15, Try.ntmps15
        go_wp2
        go_ret2
        exact ⟨rfl, (Below.refl _ w).alloc (Nat.le_refl _) _⟩
      by_cases q3 : ln ≤ 100
      rotate_left
      · replace q3 := Int.not_le.1 (by omega : ¬ (ln ≤ 100))
        clear HD
        go_enter Try.func15, Try.ntmps15
        go_wp2
        go_ret2
        exact ⟨rfl, (Below.refl _ w).alloc (Nat.le_refl _) _⟩
      by_cases q4 : 0 ≤ sz
      rotate_left
      · replace q4 := Int.not_le.1 (by omega : ¬ (0 ≤ sz))
        clear HD
        go_enter Try.func15, Try.ntmps15
        go_wp2
        go_ret2
        exact ⟨rfl, (Below.refl _ w).alloc (Nat.le_refl _) _⟩
      by_cases q5 : sz ≤ 131072
      rotate_left
      · replace q5 := Int.not_le.1 (by omega : ¬ (sz ≤ 131072))
        clear HD
        go_enter Try.func15, Try.ntmps15
        go_wp2
        go_ret2
        exact ⟨rfl, (Below.refl _ w).alloc (Nat.le_refl _) _⟩
      by_cases q6 : 0 ≤ nd
      rotate_left
      · replace q6 := Int.not_le.1 (by omega : ¬ (0 ≤ nd))
        clear HD
        go_enter Try.func15, Try.ntmps15
        go_wp2
        go_ret2
        exact ⟨rfl, (Below.refl _ w).alloc (Nat.le_refl _) _⟩
      by_cases q7 : nd ≤ 511
      rotate_left
      · replace q7 := Int.not_le.1 (by omega : ¬ (nd ≤ 511))
        clear HD
        go_enter Try.func15, Try.ntmps15
        go_wp2
        go_ret2
        exact ⟨rfl, (Below.refl _ w).alloc (Nat.le_refl _) _⟩
      have q8 : 3 < l.length := by have := HD.out; omega
      clear HD
      go_enter Try.func15, Try.ntmps15
      go_wp2
      go_ret2
      exact ⟨rfl, (Below.refl _ w).alloc (Nat.le_refl _) _⟩
end Go.Proofs.Ytjblpejekcbokaa
