/- Package layout, and the document's: Inode and Bit. -/
import Derived.Test.YtockodckpmfajaaLay
import Derived.Deep.QuietTactic
import Derived.BigQuiet
namespace Go.Proofs.Ytockodckpmfajaa
open Go.RowKit
set_option maxHeartbeats 800000
set_option linter.unusedVariables false
set_option linter.unusedSimpArgs false

/-- What is known of a right one. -/
theorem right_bd {l : Lay} (h : rightL l = true) : (64 ≤ l.bl ∧ l.bl ≤ 512) ∧ l.lg = 2 ∧ (16 ≤ l.lb ∧ l.lb ≤ 64 ∧ (l.lb = 16 ∨ l.lb = l.bl / 8)) ∧ l.bi = 2 + l.lb ∧ l.ino = 3 + l.lb ∧ l.ib = l.bl / 16 ∧ l.da = 3 + l.lb + l.bl / 16 := by
  simp only [rightL, Bool.and_eq_true, decide_eq_true_eq] at h
  obtain ⟨h1, h2⟩ := h
  have h3 : ofL l.bl = _ := if_pos h1
  rw [h3] at h2
  have hb : 64 ≤ l.bl ∧ l.bl ≤ 512 := by simpa [okN] using h1
  have hr := ringL_bd hb.1 hb.2
  have q1 := congrArg Lay.lg h2; have q2 := congrArg Lay.lb h2; have q3 := congrArg Lay.bi h2; have q4 := congrArg Lay.ino h2; have q5 := congrArg Lay.ib h2; have q6 := congrArg Lay.da h2
  simp only at q1 q2 q3 q4 q5 q6
  omega
theorem right_lt {l : Lay} (h : rightL l = true) : (64 ≤ l.bl ∧ l.bl ≤ 512) ∧ (19 ≤ l.ino ∧ l.ino ≤ 67) ∧ (4 ≤ l.ib ∧ l.ib ≤ 32) := by
  have := right_bd h; omega
def inoOk (l : Lay) (n : Int) : Bool := rightL l && decide (1 ≤ n ∧ n ≤ l.ib * 64)
def inoB (l : Lay) (n : Int) : Int := if inoOk l n then l.ino + (n - 1) / 64 else 0
def inoA (l : Lay) (n : Int) : Int := if inoOk l n then (n - 1) % 64 * 64 else 0
def errI (l : Lay) (n : Int) : Int := if inoOk l n then 0 else 2
theorem ino_no {l : Lay} {n : Int} (h : inoOk l n = false) : inoB l n = 0 ∧ inoA l n = 0 ∧ errI l n = 2 := by simp [inoB, inoA, errI, h]
theorem ino_yes {l : Lay} {n : Int} (h : inoOk l n = true) : inoB l n = l.ino + (n - 1) / 64 ∧ inoA l n = (n - 1) % 64 * 64 ∧ errI l n = 0 := by simp [inoB, inoA, errI, h]
theorem cells7 {w w1 : World} {t : TypeId} {x0 x1 x2 x3 x4 x5 x6 : Value} (b : Below (w.alloc (.cells #[x0, x1, x2, x3, x4, x5, x6] t)).heap.size (w.alloc (.cells #[x0, x1, x2, x3, x4, x5, x6] t)) w1) :
    w1.cell? ⟨w.heap.size, 0, none⟩ = some x0 ∧ w1.cell? ⟨w.heap.size, 4, none⟩ = some x4 ∧ w1.cell? ⟨w.heap.size, 5, none⟩ = some x5 := by
  have hg := (b.block w.heap.size (by simp)).trans (heap_alloc_new w _)
  exact ⟨by rw [cell_of_row _ _ _ _ _ _ hg]; rfl, by rw [cell_of_row _ _ _ _ _ _ hg]; rfl, by rw [cell_of_row _ _ _ _ _ _ hg]; rfl⟩
theorem Inode_any (w : World) (l : Lay) (n : Int) (hn : -9223372036854775808 ≤ n ∧ n ≤ 9223372036854775807) :
    Calls Try.prog 7 #[l.val, .int .i64 n] w fun e w' => e = .returned (.tuple #[.int .i64 (inoB l n), .int .i64 (inoA l n), .int .i64 (errI l n)]) ∧ Below w.heap.size w w' := by
  have R := fun w => right_any w l
  by_cases hR : rightL l = true
  · have hbd := right_lt hR
    rw [hR] at R
    by_cases hin : 1 ≤ n ∧ n ≤ l.ib * 64
    · have HI := hid (ino_yes (l := l) (n := n) (by simp [inoOk, hR, hin]))
      clear hR
      obtain ⟨a, b, c, d, f, g, k⟩ := l
      simp only [Lay.val] at *
      go_enter Try.func7, Try.ntmps7
      go_wp2_with fail
      refine (R _).mono ?_
      rintro e w1 ⟨rfl, b1⟩
      obtain ⟨c0, c4, c5⟩ := cells7 b1
      have bw := ((Below.refl _ w).alloc (Nat.le_refl _) _).trans (b1.mono (by simp))
      clear b1
      go_wp2
      go_ret3
      exact ⟨by rw [HI.out.1, HI.out.2.1, HI.out.2.2]; rfl, bw⟩
    · have HI := hid (ino_no (l := l) (n := n) (by simp [inoOk, hR]; omega))
      clear hR
      obtain ⟨a, b, c, d, f, g, k⟩ := l
      simp only [Lay.val] at *
      by_cases hlo : n < 1
      all_goals
        go_enter Try.func7, Try.ntmps7
        go_wp2_with fail
        refine (R _).mono ?_
        rintro e w1 ⟨rfl, b1⟩
        obtain ⟨c0, c4, c5⟩ := cells7 b1
        have bw := ((Below.refl _ w).alloc (Nat.le_refl _) _).trans (b1.mono (by simp))
        clear b1
        go_wp2
        go_ret3
        exact ⟨by rw [HI.out.1, HI.out.2.1, HI.out.2.2]; rfl, bw⟩
  · have hR := eq_false_of_ne_true hR
    have HI := hid (ino_no (l := l) (n := n) (by simp [inoOk, hR]))
    rw [hR] at R
    clear hR
    obtain ⟨a, b, c, d, f, g, k⟩ := l
    simp only [Lay.val] at *
    go_enter Try.func7, Try.ntmps7
    go_wp2_with fail
    refine (R _).mono ?_
    rintro e w1 ⟨rfl, b1⟩
    obtain ⟨c0, c4, c5⟩ := cells7 b1
    have bw := ((Below.refl _ w).alloc (Nat.le_refl _) _).trans (b1.mono (by simp))
    clear b1
    go_wp2
    go_ret3
    exact ⟨by rw [HI.out.1, HI.out.2.1, HI.out.2.2]; rfl, bw⟩

set_option maxRecDepth 100000 in
theorem refInode_any (w : World) (l : Lay) (n : Int) (hn : -9223372036854775808 ≤ n ∧ n ≤ 9223372036854775807) :
    Calls Try.prog 11 #[l.val, .int .i64 n] w fun e w' => e = .returned (.tuple #[.int .i64 (inoB l n), .int .i64 (inoA l n), .int .i64 (errI l n)]) ∧ Below w.heap.size w w' := by
  have R := fun w => refRight_any w l
  by_cases hR : rightL l = true
  · have hbd := right_lt hR
    rw [hR] at R
    have HY := hid (fun h => ino_yes (l := l) (n := n) (by simpa [inoOk, hR] using h))
    have HN := hid (fun h => ino_no (l := l) (n := n) (by simpa [inoOk, hR] using h))
    clear hR
    obtain ⟨a, b, c, d, f, g, k⟩ := l
    simp only [Lay.val] at *
    obtain ⟨g, rfl⟩ := Int.eq_ofNat_of_zero_le (show 0 ≤ g by omega)
    go_enter Try.func11, Try.ntmps11
    go_wp2_with fail
    refine (R _).mono ?_
    rintro e w1 ⟨rfl, b1⟩
    obtain ⟨c0, c4, c5⟩ := cells7 b1
    have bw := ((Below.refl _ w).alloc (Nat.le_refl _) _).trans (b1.mono (by simp))
    clear b1 c0
    go_wp2
    go_loop [7, 8, 9] (fun x y z => ∃ k : Nat, k ≤ g ∧ y = .int .i64 (f + (k : Int)) ∧ x = .int .i64 (1 + 64 * (k : Int)) ∧ (n < 1 ∨ 64 * (k : Int) < n)) (fun _ y _ => g - (intOf y - f).toNat)
    case atStart => exact ⟨0, by omega, by simp, by simp, by omega⟩
    case round =>
      obtain ⟨k, hk, rfl, rfl, hne⟩ := hrel
      by_cases hlt : k < g
      · go_wp2
        go_loop [7, 9] (fun x z => ∃ j : Nat, j ≤ 64 ∧ z = .int .i64 (64 * (j : Int)) ∧ x = .int .i64 (1 + 64 * (k : Int) + (j : Int)) ∧ (n < 1 ∨ 64 * (k : Int) + (j : Int) < n)) (fun _ z => 64 - (intOf z / 64).toNat)
        case atStart => exact ⟨0, by omega, by simp, by simp, by omega⟩
        case round =>
          obtain ⟨j, hj, rfl, rfl, hne⟩ := hrel
          by_cases hj2 : j < 64
          · by_cases he : 1 + 64 * (k : Int) + (j : Int) = n
            · go_wp2
              go_ret3
              obtain ⟨q1, q2, q3⟩ := HY.out ⟨by omega, by omega⟩
              refine ⟨?_, bw⟩
              rw [q1, q2, q3, show (n - 1) / 64 = (k : Int) by omega, show (n - 1) % 64 * 64 = 64 * (j : Int) by omega]
              rfl
            · go_wp2
              go_round
              case rel => exact ⟨j + 1, by omega, by go_num, by go_num, by omega⟩
              case measure => simp [intOf]; omega
          · go_wp2
            go_round
            case rel => exact ⟨k + 1, by omega, by go_num, by go_num, by omega⟩
            case measure => simp [intOf]; omega
      · go_wp2
        go_ret3
        obtain ⟨q1, q2, q3⟩ := HN.out (fun h => by omega)
        exact ⟨by rw [q1, q2, q3]; rfl, bw⟩
  · have hR := eq_false_of_ne_true hR
    have HI := hid (ino_no (l := l) (n := n) (by simp [inoOk, hR]))
    rw [hR] at R
    clear hR
    obtain ⟨a, b, c, d, f, g, k⟩ := l
    simp only [Lay.val] at *
    go_enter Try.func11, Try.ntmps11
    go_wp2_with fail
    refine (R _).mono ?_
    rintro e w1 ⟨rfl, b1⟩
    obtain ⟨c0, c4, c5⟩ := cells7 b1
    have bw := ((Below.refl _ w).alloc (Nat.le_refl _) _).trans (b1.mono (by simp))
    clear b1
    go_wp2
    go_ret3
    exact ⟨by rw [HI.out.1, HI.out.2.1, HI.out.2.2]; rfl, bw⟩
def bitOk (l : Lay) (n : Int) : Bool := decide (0 ≤ n ∧ n < l.bl)
def bitB (l : Lay) (n : Int) : Int := if rightL l && bitOk l n then n / 8 else 0
def bitV (l : Lay) (n : Int) : Nat := if rightL l && bitOk l n then 2 ^ (n % 8).toNat else 0
def errB (l : Lay) (n : Int) : Int := if rightL l then if bitOk l n then 0 else 70 else 2
theorem bit_wrong {l : Lay} {n : Int} (h : rightL l = false) : bitB l n = 0 ∧ bitV l n = 0 ∧ errB l n = 2 := by simp [bitB, bitV, errB, h]
theorem bit_no {l : Lay} {n : Int} (h : rightL l = true) (h2 : bitOk l n = false) : bitB l n = 0 ∧ bitV l n = 0 ∧ errB l n = 70 := by simp [bitB, bitV, errB, h, h2]
theorem bit_yes {l : Lay} {n : Int} (h : rightL l = true) (h2 : bitOk l n = true) : bitB l n = n / 8 ∧ bitV l n = 2 ^ (n % 8).toNat ∧ errB l n = 0 := by simp [bitB, bitV, errB, h, h2]
theorem pow_bit (m : Nat) : ((2 ^ ((m : Int) % 8).toNat : Nat) : Int) = (2 : Int) ^ (m % 8) % 256 := by
  have h : ∀ r, r < 8 → ((2 ^ r : Nat) : Int) = (2 : Int) ^ r % 256 := by decide
  rw [show ((m : Int) % 8).toNat = m % 8 by omega]
  exact h _ (by omega)
theorem below_drewN' {B : Nat} {a w : World} (h : Below B a w) (n : Nat) : Below B a (w.drewN n) := ⟨h.os, h.tape, h.output, h.size, h.block⟩
set_option maxRecDepth 100000 in
theorem Bit_any (w : World) (l : Lay) (n : Int) (hn : -9223372036854775808 ≤ n ∧ n ≤ 9223372036854775807) :
    Calls Try.prog 8 #[l.val, .int .i64 n] w fun e w' => e = .returned (.tuple #[.int .i64 (bitB l n), .int .u8 (bitV l n : Nat), .int .i64 (errB l n)]) ∧ Below w.heap.size w w' := by
  have R := fun w => right_any w l
  by_cases hR : rightL l = true
  · have hbd := (right_lt hR).1
    rw [hR] at R
    by_cases hin : 0 ≤ n ∧ n < l.bl
    · have HI := hid (bit_yes hR (l := l) (n := n) (by simp [bitOk, hin]))
      clear hR
      obtain ⟨a, b, c, d, f, g, k⟩ := l
      simp only [Lay.val] at *
      obtain ⟨m, rfl⟩ := Int.eq_ofNat_of_zero_le hin.1
      go_enter Try.func8, Try.ntmps8
      go_wp2_with fail
      refine (R _).mono ?_
      rintro e w1 ⟨rfl, b1⟩
      obtain ⟨c0, c4, c5⟩ := cells7 b1
      have bw := ((Below.refl _ w).alloc (Nat.le_refl _) _).trans (b1.mono (by simp))
      clear b1
      go_wp2
      go_quiet (fail)
      go_wp2
      go_ret3
      rw [HI.out.1, HI.out.2.1, HI.out.2.2, pow_bit m]
      exact ⟨rfl, below_drewN' bw _⟩
    · have HI := hid (bit_no hR (l := l) (n := n) (by simp [bitOk]; omega))
      clear hR
      obtain ⟨a, b, c, d, f, g, k⟩ := l
      simp only [Lay.val] at *
      by_cases hlo : n < 0
      all_goals
        go_enter Try.func8, Try.ntmps8
        go_wp2_with fail
        refine (R _).mono ?_
        rintro e w1 ⟨rfl, b1⟩
        obtain ⟨c0, c4, c5⟩ := cells7 b1
        have bw := ((Below.refl _ w).alloc (Nat.le_refl _) _).trans (b1.mono (by simp))
        clear b1
        go_wp2
        go_ret3
        exact ⟨by rw [HI.out.1, HI.out.2.1, HI.out.2.2]; rfl, bw⟩
  · have hR := eq_false_of_ne_true hR
    have HI := hid (bit_wrong (l := l) (n := n) hR)
    rw [hR] at R
    clear hR
    obtain ⟨a, b, c, d, f, g, k⟩ := l
    simp only [Lay.val] at *
    go_enter Try.func8, Try.ntmps8
    go_wp2_with fail
    refine (R _).mono ?_
    rintro e w1 ⟨rfl, b1⟩
    obtain ⟨c0, c4, c5⟩ := cells7 b1
    have bw := ((Below.refl _ w).alloc (Nat.le_refl _) _).trans (b1.mono (by simp))
    clear b1
    go_wp2
    go_ret3
    exact ⟨by rw [HI.out.1, HI.out.2.1, HI.out.2.2]; rfl, bw⟩
set_option maxRecDepth 100000 in
theorem refBit_any (w : World) (l : Lay) (n : Int) (hn : -9223372036854775808 ≤ n ∧ n ≤ 9223372036854775807) :
    Calls Try.prog 12 #[l.val, .int .i64 n] w fun e w' => e = .returned (.tuple #[.int .i64 (bitB l n), .int .u8 (bitV l n : Nat), .int .i64 (errB l n)]) ∧ Below w.heap.size w w' := by
  have R := fun w => refRight_any w l
  by_cases hR : rightL l = true
  · have hbd := (right_lt hR).1
    rw [hR] at R
    by_cases hin : 0 ≤ n ∧ n < l.bl
    · have HI := hid (bit_yes hR (l := l) (n := n) (by simp [bitOk, hin]))
      clear hR
      obtain ⟨a, b, c, d, f, g, k⟩ := l
      simp only [Lay.val] at *
      obtain ⟨m, rfl⟩ := Int.eq_ofNat_of_zero_le hin.1
      have hp8 : 2 ^ (m % 8) ≤ 128 := Nat.le_trans (Nat.pow_le_pow_right (by decide) (show m % 8 ≤ 7 by omega)) (by decide)
      go_enter Try.func12, Try.ntmps12
      go_wp2_with fail
      refine (R _).mono ?_
      rintro e w1 ⟨rfl, b1⟩
      obtain ⟨c0, c4, c5⟩ := cells7 b1
      have bw := ((Below.refl _ w).alloc (Nat.le_refl _) _).trans (b1.mono (by simp))
      clear b1
      go_wp2
      go_loop [7, 8] (fun x i => ∃ j : Nat, j ≤ m % 8 ∧ i = .int .i64 j ∧ x = .int .u8 ((2 ^ j : Nat) : Int)) (fun _ i => m % 8 - (intOf i).toNat)
      case atStart => exact ⟨0, by omega, rfl, rfl⟩
      case round =>
        obtain ⟨j, hj, rfl, rfl⟩ := hrel
        by_cases hlt : j < m % 8
        · have hpp : 2 ^ (j + 1) ≤ 128 := Nat.le_trans (Nat.pow_le_pow_right (by decide) (show j + 1 ≤ 7 by omega)) (by decide)
          have hp2 : 2 ^ (j + 1) = 2 ^ j * 2 := Nat.pow_succ 2 j
          have hp3 : 2 ^ j ≤ 64 := by omega
          have HP := hid hp2
          clear hp2 hpp
          obtain ⟨q, hq⟩ : ∃ q, q = 2 ^ j := ⟨_, rfl⟩
          rw [← hq] at hp3 HP ⊢
          clear hq
          go_wp2
          go_round
          case rel => exact ⟨j + 1, by omega, by go_num, by rw [HP.out]; go_num⟩
          case measure => simp [intOf]; omega
        · obtain rfl : j = m % 8 := by omega
          go_wp2
          go_ret3
          rw [HI.out.1, HI.out.2.1, HI.out.2.2]
          exact ⟨rfl, bw⟩
    · have HI := hid (bit_no hR (l := l) (n := n) (by simp [bitOk]; omega))
      clear hR
      obtain ⟨a, b, c, d, f, g, k⟩ := l
      simp only [Lay.val] at *
      by_cases hlo : n < 0
      all_goals
        go_enter Try.func12, Try.ntmps12
        go_wp2_with fail
        refine (R _).mono ?_
        rintro e w1 ⟨rfl, b1⟩
        obtain ⟨c0, c4, c5⟩ := cells7 b1
        have bw := ((Below.refl _ w).alloc (Nat.le_refl _) _).trans (b1.mono (by simp))
        clear b1
        go_wp2
        go_ret3
        exact ⟨by rw [HI.out.1, HI.out.2.1, HI.out.2.2]; rfl, bw⟩
  · have hR := eq_false_of_ne_true hR
    have HI := hid (bit_wrong (l := l) (n := n) hR)
    rw [hR] at R
    clear hR
    obtain ⟨a, b, c, d, f, g, k⟩ := l
    simp only [Lay.val] at *
    go_enter Try.func12, Try.ntmps12
    go_wp2_with fail
    refine (R _).mono ?_
    rintro e w1 ⟨rfl, b1⟩
    obtain ⟨c0, c4, c5⟩ := cells7 b1
    have bw := ((Below.refl _ w).alloc (Nat.le_refl _) _).trans (b1.mono (by simp))
    clear b1
    go_wp2
    go_ret3
    exact ⟨by rw [HI.out.1, HI.out.2.1, HI.out.2.2]; rfl, bw⟩
end Go.Proofs.Ytockodckpmfajaa
