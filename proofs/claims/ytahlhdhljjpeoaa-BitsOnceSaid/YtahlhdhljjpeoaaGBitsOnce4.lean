/- Texts joined: Lay2, BtA, BitsP, BtB, BtC. -/
import Derived.Deep.QuietTactic
import Derived.BigQuiet
import Derived.Test.YtahlhdhljjpeoaaGBitsOnce1
import Derived.Test.YtahlhdhljjpeoaaGBitsOnce3
/- Package layout, and the document's: Inode and Bit. -/
namespace Go.Proofs.Ytahlhdhljjpeoaa
open Go.RowKit
set_option maxHeartbeats 800000
set_option linter.unusedVariables false
set_option linter.unusedSimpArgs false

/-- What is known of a right one. -/
theorem right_bd {l : Lay} (h : rightL l = true) : (64 ≤ l.bl ∧ l.bl ≤ 512) ∧ l.lg = 2 ∧ (16 ≤ l.lb ∧ l.lb ≤ 64 ∧ (l.lb = 16 ∨ l.lb = l.bl / 8)) ∧ l.bi = 2 + l.lb ∧ l.ino = 3 + l.lb ∧ l.ib = l.bl / 16 ∧ l.da = 3 + l.lb + l.bl / 16 := by
  simp only [rightL, Bool.and_eq_true, decide_eq_true_eq] at h
  obtain ⟨h1, h2⟩ := h
  have h3 : ofL l.bl = _ := if_pos h1
  rw [h3] at h2
  have hb : 64 ≤ l.bl ∧ l.bl ≤ 512 := by simpa [okN] using h1
  have hr := ringL_bd hb.1 hb.2
  have q1 := congrArg Lay.lg h2; have q2 := congrArg Lay.lb h2; have q3 := congrArg Lay.bi h2; have q4 := congrArg Lay.ino h2; have q5 := congrArg Lay.ib h2; have q6 := congrArg Lay.da h2
  simp only at q1 q2 q3 q4 q5 q6
  omega
theorem right_lt {l : Lay} (h : rightL l = true) : (64 ≤ l.bl ∧ l.bl ≤ 512) ∧ (19 ≤ l.ino ∧ l.ino ≤ 67) ∧ (4 ≤ l.ib ∧ l.ib ≤ 32) := by
  have := right_bd h; omega
def inoOk (l : Lay) (n : Int) : Bool := rightL l && decide (1 ≤ n ∧ n ≤ l.ib * 64)
def inoB (l : Lay) (n : Int) : Int := if inoOk l n then l.ino + (n - 1) / 64 else 0
def inoA (l : Lay) (n : Int) : Int := if inoOk l n then (n - 1) % 64 * 64 else 0
def errI (l : Lay) (n : Int) : Int := if inoOk l n then 0 else 2
theorem ino_no {l : Lay} {n : Int} (h : inoOk l n = false) : inoB l n = 0 ∧ inoA l n = 0 ∧ errI l n = 2 := by simp [inoB, inoA, errI, h]
theorem ino_yes {l : Lay} {n : Int} (h : inoOk l n = true) : inoB l n = l.ino + (n - 1) / 64 ∧ inoA l n = (n - 1) % 64 * 64 ∧ errI l n = 0 := by simp [inoB, inoA, errI, h]
theorem cells7 {w w1 : World} {t : TypeId} {x0 x1 x2 x3 x4 x5 x6 : Value} (b : Below (w.alloc (.cells #[x0, x1, x2, x3, x4, x5, x6] t)).heap.size (w.alloc (.cells #[x0, x1, x2, x3, x4, x5, x6] t)) w1) :
    w1.cell? ⟨w.heap.size, 0, none⟩ = some x0 ∧ w1.cell? ⟨w.heap.size, 4, none⟩ = some x4 ∧ w1.cell? ⟨w.heap.size, 5, none⟩ = some x5 := by
  have hg := (b.block w.heap.size (by simp)).trans (heap_alloc_new w _)
  exact ⟨by rw [cell_of_row _ _ _ _ _ _ hg]; rfl, by rw [cell_of_row _ _ _ _ _ _ hg]; rfl, by rw [cell_of_row _ _ _ _ _ _ hg]; rfl⟩
theorem Inode_any (w : World) (l : Lay) (n : Int) (hn : -9223372036854775808 ≤ n ∧ n ≤ 9223372036854775807) :
    Calls Try.prog 100 #[l.val, .int .i64 n] w fun e w' => e = .returned (.tuple #[.int .i64 (inoB l n), .int .i64 (inoA l n), .int .i64 (errI l n)]) ∧ Below w.heap.size w w' := by
  have R := fun w => right_any w l
  by_cases hR : rightL l = true
  · have hbd := right_lt hR
    rw [hR] at R
    by_cases hin : 1 ≤ n ∧ n ≤ l.ib * 64
    · have HI := hid (ino_yes (l := l) (n := n) (by simp [inoOk, hR, hin]))
      clear hR
      obtain ⟨a, b, c, d, f, g, k⟩ := l
      simp only [Lay.val] at *
      go_enter Try.func100, Try.ntmps100
      go_wp2_with fail
      refine (R _).mono ?_
      rintro e w1 ⟨rfl, b1⟩
      obtain ⟨c0, c4, c5⟩ := cells7 b1
      have bw := ((Below.refl _ w).alloc (Nat.le_refl _) _).trans (b1.mono (by simp))
      clear b1
      go_wp2
      go_ret3
      exact ⟨by rw [HI.out.1, HI.out.2.1, HI.out.2.2]; rfl, bw⟩
    · have HI := hid (ino_no (l := l) (n := n) (by simp [inoOk, hR]; omega))
      clear hR
      obtain ⟨a, b, c, d, f, g, k⟩ := l
      simp only [Lay.val] at *
      by_cases hlo : n < 1
      all_goals
        go_enter Try.func100, Try.ntmps100
        go_wp2_with fail
        refine (R _).mono ?_
        rintro e w1 ⟨rfl, b1⟩
        obtain ⟨c0, c4, c5⟩ := cells7 b1
        have bw := ((Below.refl _ w).alloc (Nat.le_refl _) _).trans (b1.mono (by simp))
        clear b1
        go_wp2
        go_ret3
        exact ⟨by rw [HI.out.1, HI.out.2.1, HI.out.2.2]; rfl, bw⟩
  · have hR := eq_false_of_ne_true hR
    have HI := hid (ino_no (l := l) (n := n) (by simp [inoOk, hR]))
    rw [hR] at R
    clear hR
    obtain ⟨a, b, c, d, f, g, k⟩ := l
    simp only [Lay.val] at *
    go_enter Try.func100, Try.ntmps100
    go_wp2_with fail
    refine (R _).mono ?_
    rintro e w1 ⟨rfl, b1⟩
    obtain ⟨c0, c4, c5⟩ := cells7 b1
    have bw := ((Below.refl _ w).alloc (Nat.le_refl _) _).trans (b1.mono (by simp))
    clear b1
    go_wp2
    go_ret3
    exact ⟨by rw [HI.out.1, HI.out.2.1, HI.out.2.2]; rfl, bw⟩

set_option maxRecDepth 100000 in
theorem refInode_any (w : World) (l : Lay) (n : Int) (hn : -9223372036854775808 ≤ n ∧ n ≤ 9223372036854775807) :
    Calls Try.prog 104 #[l.val, .int .i64 n] w fun e w' => e = .returned (.tuple #[.int .i64 (inoB l n), .int .i64 (inoA l n), .int .i64 (errI l n)]) ∧ Below w.heap.size w w' := by
  have R := fun w => layRefRight_any w l
  by_cases hR : rightL l = true
  · have hbd := right_lt hR
    rw [hR] at R
    have HY := hid (fun h => ino_yes (l := l) (n := n) (by simpa [inoOk, hR] using h))
    have HN := hid (fun h => ino_no (l := l) (n := n) (by simpa [inoOk, hR] using h))
    clear hR
    obtain ⟨a, b, c, d, f, g, k⟩ := l
    simp only [Lay.val] at *
    obtain ⟨g, rfl⟩ := Int.eq_ofNat_of_zero_le (show 0 ≤ g by omega)
    go_enter Try.func104, Try.ntmps104
    go_wp2_with fail
    refine (R _).mono ?_
    rintro e w1 ⟨rfl, b1⟩
    obtain ⟨c0, c4, c5⟩ := cells7 b1
    have bw := ((Below.refl _ w).alloc (Nat.le_refl _) _).trans (b1.mono (by simp))
    clear b1 c0
    go_wp2
    go_loop [7, 8, 9] (fun x y z => ∃ k : Nat, k ≤ g ∧ y = .int .i64 (f + (k : Int)) ∧ x = .int .i64 (1 + 64 * (k : Int)) ∧ (n < 1 ∨ 64 * (k : Int) < n)) (fun _ y _ => g - (intOf y - f).toNat)
    case atStart => exact ⟨0, by omega, by simp, by simp, by omega⟩
    case round =>
      obtain ⟨k, hk, rfl, rfl, hne⟩ := hrel
      by_cases hlt : k < g
      · go_wp2
        go_loop [7, 9] (fun x z => ∃ j : Nat, j ≤ 64 ∧ z = .int .i64 (64 * (j : Int)) ∧ x = .int .i64 (1 + 64 * (k : Int) + (j : Int)) ∧ (n < 1 ∨ 64 * (k : Int) + (j : Int) < n)) (fun _ z => 64 - (intOf z / 64).toNat)
        case atStart => exact ⟨0, by omega, by simp, by simp, by omega⟩
        case round =>
          obtain ⟨j, hj, rfl, rfl, hne⟩ := hrel
          by_cases hj2 : j < 64
          · by_cases he : 1 + 64 * (k : Int) + (j : Int) = n
            · go_wp2
              go_ret3
              obtain ⟨q1, q2, q3⟩ := HY.out ⟨by omega, by omega⟩
              refine ⟨?_, bw⟩
              rw [q1, q2, q3, show (n - 1) / 64 = (k : Int) by omega, show (n - 1) % 64 * 64 = 64 * (j : Int) by omega]
              rfl
            · go_wp2
              go_round
              case rel => exact ⟨j + 1, by omega, by go_num, by go_num, by omega⟩
              case measure => simp [intOf]; omega
          · go_wp2
            go_round
            case rel => exact ⟨k + 1, by omega, by go_num, by go_num, by omega⟩
            case measure => simp [intOf]; omega
      · go_wp2
        go_ret3
        obtain ⟨q1, q2, q3⟩ := HN.out (fun h => by omega)
        exact ⟨by rw [q1, q2, q3]; rfl, bw⟩
  · have hR := eq_false_of_ne_true hR
    have HI := hid (ino_no (l := l) (n := n) (by simp [inoOk, hR]))
    rw [hR] at R
    clear hR
    obtain ⟨a, b, c, d, f, g, k⟩ := l
    simp only [Lay.val] at *
    go_enter Try.func104, Try.ntmps104
    go_wp2_with fail
    refine (R _).mono ?_
    rintro e w1 ⟨rfl, b1⟩
    obtain ⟨c0, c4, c5⟩ := cells7 b1
    have bw := ((Below.refl _ w).alloc (Nat.le_refl _) _).trans (b1.mono (by simp))
    clear b1
    go_wp2
    go_ret3
    exact ⟨by rw [HI.out.1, HI.out.2.1, HI.out.2.2]; rfl, bw⟩
def bitOk (l : Lay) (n : Int) : Bool := decide (0 ≤ n ∧ n < l.bl)
def bitB (l : Lay) (n : Int) : Int := if rightL l && bitOk l n then n / 8 else 0
def bitV (l : Lay) (n : Int) : Nat := if rightL l && bitOk l n then 2 ^ (n % 8).toNat else 0
def errB (l : Lay) (n : Int) : Int := if rightL l then if bitOk l n then 0 else 70 else 2
theorem bit_wrong {l : Lay} {n : Int} (h : rightL l = false) : bitB l n = 0 ∧ bitV l n = 0 ∧ errB l n = 2 := by simp [bitB, bitV, errB, h]
theorem bit_no {l : Lay} {n : Int} (h : rightL l = true) (h2 : bitOk l n = false) : bitB l n = 0 ∧ bitV l n = 0 ∧ errB l n = 70 := by simp [bitB, bitV, errB, h, h2]
theorem bit_yes {l : Lay} {n : Int} (h : rightL l = true) (h2 : bitOk l n = true) : bitB l n = n / 8 ∧ bitV l n = 2 ^ (n % 8).toNat ∧ errB l n = 0 := by simp [bitB, bitV, errB, h, h2]
theorem pow_bit (m : Nat) : ((2 ^ ((m : Int) % 8).toNat : Nat) : Int) = (2 : Int) ^ (m % 8) % 256 := by
  have h : ∀ r, r < 8 → ((2 ^ r : Nat) : Int) = (2 : Int) ^ r % 256 := by decide
  rw [show ((m : Int) % 8).toNat = m % 8 by omega]
  exact h _ (by omega)
theorem below_drewN' {B : Nat} {a w : World} (h : Below B a w) (n : Nat) : Below B a (w.drewN n) := ⟨h.os, h.tape, h.output, h.size, h.block⟩
set_option maxRecDepth 100000 in
theorem Bit_any (w : World) (l : Lay) (n : Int) (hn : -9223372036854775808 ≤ n ∧ n ≤ 9223372036854775807) :
    Calls Try.prog 65 #[l.val, .int .i64 n] w fun e w' => e = .returned (.tuple #[.int .i64 (bitB l n), .int .u8 (bitV l n : Nat), .int .i64 (errB l n)]) ∧ Below w.heap.size w w' := by
  have R := fun w => right_any w l
  by_cases hR : rightL l = true
  · have hbd := (right_lt hR).1
    rw [hR] at R
    by_cases hin : 0 ≤ n ∧ n < l.bl
    · have HI := hid (bit_yes hR (l := l) (n := n) (by simp [bitOk, hin]))
      clear hR
      obtain ⟨a, b, c, d, f, g, k⟩ := l
      simp only [Lay.val] at *
      obtain ⟨m, rfl⟩ := Int.eq_ofNat_of_zero_le hin.1
      go_enter Try.func65, Try.ntmps65
      go_wp2_with fail
      refine (R _).mono ?_
      rintro e w1 ⟨rfl, b1⟩
      obtain ⟨c0, c4, c5⟩ := cells7 b1
      have bw := ((Below.refl _ w).alloc (Nat.le_refl _) _).trans (b1.mono (by simp))
      clear b1
      go_wp2
      go_quiet (fail)
      go_wp2
      go_ret3
      rw [HI.out.1, HI.out.2.1, HI.out.2.2, pow_bit m]
      exact ⟨rfl, below_drewN' bw _⟩
    · have HI := hid (bit_no hR (l := l) (n := n) (by simp [bitOk]; omega))
      clear hR
      obtain ⟨a, b, c, d, f, g, k⟩ := l
      simp only [Lay.val] at *
      by_cases hlo : n < 0
      all_goals
        go_enter Try.func65, Try.ntmps65
        go_wp2_with fail
        refine (R _).mono ?_
        rintro e w1 ⟨rfl, b1⟩
        obtain ⟨c0, c4, c5⟩ := cells7 b1
        have bw := ((Below.refl _ w).alloc (Nat.le_refl _) _).trans (b1.mono (by simp))
        clear b1
        go_wp2
        go_ret3
        exact ⟨by rw [HI.out.1, HI.out.2.1, HI.out.2.2]; rfl, bw⟩
  · have hR := eq_false_of_ne_true hR
    have HI := hid (bit_wrong (l := l) (n := n) hR)
    rw [hR] at R
    clear hR
    obtain ⟨a, b, c, d, f, g, k⟩ := l
    simp only [Lay.val] at *
    go_enter Try.func65, Try.ntmps65
    go_wp2_with fail
    refine (R _).mono ?_
    rintro e w1 ⟨rfl, b1⟩
    obtain ⟨c0, c4, c5⟩ := cells7 b1
    have bw := ((Below.refl _ w).alloc (Nat.le_refl _) _).trans (b1.mono (by simp))
    clear b1
    go_wp2
    go_ret3
    exact ⟨by rw [HI.out.1, HI.out.2.1, HI.out.2.2]; rfl, bw⟩
end Go.Proofs.Ytahlhdhljjpeoaa

/- bits: inodes, wrong. -/
namespace Go.Proofs.Ytahlhdhljjpeoaa
open Go.RowKit
variable {Q : Nat → Prop}
set_option maxHeartbeats 1500000
set_option maxRecDepth 100000
set_option linter.unusedVariables false
set_option linter.unusedSimpArgs false

/-- A space as the packages take it. -/
def spV (P : Nat) : Value := .iface 37 (.pointer (some ⟨P, 0, none⟩))
theorem rdB_len {d : Pl} (ho : d.ok) (n : Int) : (d.rdE n = 0 ∧ (d.rdB n).length = 4096) ∨ (d.rdE n ≠ 0 ∧ d.rdB n = []) := by
  unfold Pl.rdE Pl.rdB
  split
  · exact .inr ⟨by decide, rfl⟩
  · split
    · rename_i h
      have h' := of_decide_eq_true h
      have hm : n.toNat < d.b.length := by omega
      refine .inl ⟨rfl, ?_⟩
      rw [List.getD_eq_getElem?_getD, List.getElem?_eq_getElem hm]
      exact ho.b4 _ (List.getElem_mem hm)
    · exact .inr ⟨by decide, rfl⟩
theorem inodes_is {base : Nat} (w : World) (P : Nat) {S : Nat → Prop} {d : Pl} (h : IsPl Q base w P S d) (hl : -100000000 ≤ d.left) (n : Int) (hn : -9223372036854775808 ≤ n ∧ n ≤ 9223372036854775807) :
    Calls Try.prog 56 #[spV P, .int .i64 n] w fun e w' => (∃ A c N, e = .returned (.tuple #[.slice A N c, .int .i64 (d.rdE n)]) ∧ N = (d.rdB n).length ∧ OwnB w.heap.size w' A c (d.rdB n)) ∧ IsPl Q base w' P S d.tick ∧ Kpt S w w' := by
  have RD := Read_is w P h hl n hn
  have hc := rdB_len h.ok n
  unfold spV
  go_enter Try.func56, Try.ntmps56
  go_wp2_with fail
  refine RD.mono ?_
  rintro e w1 ⟨⟨A, c, N, rfl, hN, ho⟩, hi, hk⟩
  have HO := hid ho; have HI := hid hi; have HK := hid hk; have HN := hid hN
  clear RD ho hi hk h
  rcases hc with ⟨h1, h2⟩ | ⟨h1, h2⟩
  · have HL := hid h2; have HE := hid h1
    rw [h1]
    rw [h2] at hN
    subst hN
    clear h1 h2
    go_wp2
    refine bodyPost_ret (v := .tuple #[.slice A 4096 c, .int .i64 0]) (by simp [results, Try.results56, go_sem]) rfl ⟨⟨A, c, 4096, by rw [HE.out], HL.out.symm, HO.out⟩, HI.out, HK.out⟩
  · have hb : (d.rdE n == 0) = false := by simpa using h1
    have HL := hid h2
    rw [h2] at hN
    simp only [List.length_nil] at hN
    subst hN
    obtain ⟨x, hx⟩ : ∃ x, x = d.rdE n := ⟨_, rfl⟩
    rw [← hx] at hb ⊢
    have HX := hid hx
    clear h1 h2 hx
    go_wp2
    refine bodyPost_ret (v := .tuple #[.slice A 0 c, .int .i64 x]) (by simp [results, Try.results56, go_sem]) rfl ⟨⟨A, c, 0, by rw [HX.out], by rw [HL.out]; rfl, HO.out⟩, HI.out, HK.out⟩
/-- Is it no layout? -/
def wrgE (l : Lay) : Int := if rightL l = true then 0 else 2
theorem bitsWrong_any (w : World) (P : Nat) (l : Lay) :
    Calls Try.prog 59 #[spV P, l.val] w fun e w' => e = .returned (.int .i64 (wrgE l)) ∧ Below w.heap.size w w' := by
  have hof := fun w => Of_any w l.bl
  have hE := hid (show errN l.bl = if okN l.bl then 0 else 2 from rfl)
  obtain ⟨ok, hok⟩ : ∃ ok, ok = okN l.bl := ⟨_, rfl⟩
  have hR := hid (show rightL l = (okN l.bl && decide (ofL l.bl = l)) from rfl)
  rw [← hok] at hE hR
  obtain ⟨e, he⟩ : ∃ e, e = errN l.bl := ⟨_, rfl⟩
  obtain ⟨o, ho⟩ : ∃ o, o = ofL l.bl := ⟨_, rfl⟩
  rw [← ho] at hR hof
  rw [← he] at hE
  rw [← he] at hof
  clear he hok ho
  obtain ⟨a, b, c, d, f, g, k⟩ := l
  obtain ⟨a', b', c', d', f', g', k'⟩ := o
  simp only [Lay.val, spV] at hof ⊢
  cases ok with
  | false =>
    have he := hE.out
    simp only [Bool.false_eq_true, if_false] at he
    subst he
    go_enter Try.func59, Try.ntmps59
    go_wp2_with fail
    refine (hof _).mono ?_
    rintro e w1 ⟨rfl, b1⟩
    have bw := ((Below.refl _ w).alloc (Nat.le_refl _) _).trans (b1.mono (by simp))
    clear b1
    go_wp2
    go_ret
    exact ⟨by rw [wrgE, hR.out]; rfl, bw.alloc bw.size _⟩
  | true =>
    have he := hE.out
    simp only [if_true] at he
    subst he
    go_enter Try.func59, Try.ntmps59
    go_wp2_with fail
    refine (hof _).mono ?_
    rintro e w1 ⟨rfl, b1⟩
    have hg := (b1.block w.heap.size (by simp)).trans (heap_alloc_new w _)
    have c0 := cell_kept' hg 0 _ rfl
    have c1 := cell_kept' hg 1 _ rfl
    have c2 := cell_kept' hg 2 _ rfl
    have c3 := cell_kept' hg 3 _ rfl
    have c4 := cell_kept' hg 4 _ rfl
    have c5 := cell_kept' hg 5 _ rfl
    have c6 := cell_kept' hg 6 _ rfl
    have bw := ((Below.refl _ w).alloc (Nat.le_refl _) _).trans (b1.mono (by simp))
    clear hg b1
    go_wp2
    all_goals
      go_ret
      refine ⟨?_, bw.alloc bw.size _⟩
      rw [wrgE, hR.out]
      first
      | (rw [Bool.true_and, if_pos (decide_eq_true (by rw [Lay.mk.injEq]; omega))]; done)
      | (rw [Bool.true_and, if_pos (decide_eq_true (by rw [Lay.mk.injEq]; omega))]; rfl)
      | (rw [Bool.true_and, if_neg (by intro h; have h := of_decide_eq_true h; rw [Lay.mk.injEq] at h; omega)]; done)
      | (rw [Bool.true_and, if_neg (by intro h; have h := of_decide_eq_true h; rw [Lay.mk.injEq] at h; omega)]; rfl)
end Go.Proofs.Ytahlhdhljjpeoaa

/- The block of bits (plain). -/
namespace Go.Proofs.Ytahlhdhljjpeoaa
open Go.RowKit
set_option maxHeartbeats 1000000
set_option maxRecDepth 100000
set_option linter.unusedVariables false
set_option linter.unusedSimpArgs false

/-- Eight bits as a byte. -/
def byteN (f : Nat → Bool) : UInt8 := UInt8.ofNat ((f 0).toNat + (f 1).toNat * 2 + (f 2).toNat * 4 + (f 3).toNat * 8 + (f 4).toNat * 16 + (f 5).toNat * 32 + (f 6).toNat * 64 + (f 7).toNat * 128)
def bitN (b : UInt8) (k : Nat) : Bool := b.toNat / 2 ^ k % 2 == 1
theorem bits8 : ∀ b0 b1 b2 b3 b4 b5 b6 b7 : Bool, ∀ k : Fin 8,
    bitN (UInt8.ofNat (b0.toNat + b1.toNat * 2 + b2.toNat * 4 + b3.toNat * 8 + b4.toNat * 16 + b5.toNat * 32 + b6.toNat * 64 + b7.toNat * 128)) k = [b0, b1, b2, b3, b4, b5, b6, b7].getD k false := by decide +kernel
theorem bitN_byteN (f : Nat → Bool) (k : Nat) (hk : k < 8) : bitN (byteN f) k = f k := by
  have := bits8 (f 0) (f 1) (f 2) (f 3) (f 4) (f 5) (f 6) (f 7) ⟨k, hk⟩
  unfold byteN
  rw [this]
  rcases k with _ | _ | _ | _ | _ | _ | _ | _ | k
  all_goals first | rfl | omega
theorem byte_all : ∀ n : Fin 256, byteN (bitN (UInt8.ofNat n)) = UInt8.ofNat n := by decide +kernel
theorem byteN_bitN (b : UInt8) : byteN (bitN b) = b := by
  have := byte_all ⟨b.toNat, b.toNat_lt⟩
  simpa using this
theorem byteN_ext {f g : Nat → Bool} (h : ∀ k, k < 8 → f k = g k) : byteN f = byteN g := by
  unfold byteN
  rw [h 0 (by omega), h 1 (by omega), h 2 (by omega), h 3 (by omega), h 4 (by omega), h 5 (by omega), h 6 (by omega), h 7 (by omega)]
theorem byte_ext {a b : UInt8} (h : ∀ k, k < 8 → bitN a k = bitN b k) : a = b := by
  rw [← byteN_bitN a, ← byteN_bitN b]
  exact byteN_ext h
/-- A bit is set. -/
theorem or_all : ∀ n : Fin 256, ∀ k : Fin 8, ∀ j : Fin 8, bitN (UInt8.ofNat (n.val ||| 2 ^ k.val)) j = (bitN (UInt8.ofNat n) j || k == j) := by decide +kernel
theorem bitN_or (b : UInt8) (k j : Nat) (hk : k < 8) (hj : j < 8) : bitN (UInt8.ofNat (b.toNat ||| 2 ^ k)) j = (bitN b j || decide (k = j)) := by
  have := or_all ⟨b.toNat, b.toNat_lt⟩ ⟨k, hk⟩ ⟨j, hj⟩
  simp only [UInt8.ofNat_toNat] at this
  rw [this]
  congr 1
  by_cases e : k = j
  · subst e; simp
  · simp [e]
theorem and_all : ∀ n : Fin 256, ∀ k : Fin 8, (n.val &&& 2 ^ k.val != 0) = bitN (UInt8.ofNat n) k := by decide +kernel
theorem and_bit (b : UInt8) (k : Nat) (hk : k < 8) : (b.toNat &&& 2 ^ k != 0) = bitN b k := by
  have := and_all ⟨b.toNat, b.toNat_lt⟩ ⟨k, hk⟩
  simpa using this
/-- The bit of a block. -/
def bitOf (b : List UInt8) (n : Nat) : Bool := bitN (bat b (n / 8)) (n % 8)
def usedOf (b : List UInt8) (n : Nat) : List Bool := (List.range n).map (bitOf b)
theorem usedOf_length (b : List UInt8) (n : Nat) : (usedOf b n).length = n := by simp [usedOf]
theorem usedOf_at (b : List UInt8) (n k : Nat) (h : k < n) : (usedOf b n)[k]? = some (bitOf b k) := by simp [usedOf, h]
theorem usedOf_succ (b : List UInt8) (n : Nat) : usedOf b (n + 1) = usedOf b n ++ [bitOf b n] := by simp [usedOf, List.range_succ]
/-- The block of bits, when so many have been looked at. -/
def wrTo (u : List Bool) (n : Nat) : List UInt8 := (List.range 4096).map fun j => byteN fun k => decide (8 * j + k < n) && u.getD (8 * j + k) false
def wrB (u : List Bool) : List UInt8 := wrTo u u.length
theorem wrTo_length (u : List Bool) (n : Nat) : (wrTo u n).length = 4096 := by simp [wrTo]
theorem wrB_length (u : List Bool) : (wrB u).length = 4096 := wrTo_length _ _
theorem bat_wrTo (u : List Bool) (n j : Nat) (h : j < 4096) : bat (wrTo u n) j = byteN fun k => decide (8 * j + k < n) && u.getD (8 * j + k) false := by simp [wrTo, bat, h]
theorem bitOf_wrTo (u : List Bool) (n m : Nat) (h : m < 32768) : bitOf (wrTo u n) m = (decide (m < n) && u.getD m false) := by
  unfold bitOf
  rw [bat_wrTo _ _ _ (by omega), bitN_byteN _ _ (by omega), show 8 * (m / 8) + m % 8 = m by omega]
theorem bat_extN {l r : List UInt8} (h : l.length = r.length) (h2 : ∀ k, k < l.length → bat l k = bat r k) : l = r := by
  refine List.ext_getElem h fun k h3 h4 => ?_
  have := h2 k h3
  simp only [bat, List.getD_eq_getElem?_getD, List.getElem?_eq_getElem h3, List.getElem?_eq_getElem h4, Option.getD_some] at this
  exact this
theorem bits_ext {a b : List UInt8} (ha : a.length = 4096) (hb : b.length = 4096) (h : ∀ m, m < 32768 → bitOf a m = bitOf b m) : a = b := by
  refine bat_extN (by rw [ha, hb]) fun j hj => byte_ext fun k hk => ?_
  have := h (8 * j + k) (by omega)
  unfold bitOf at this
  rwa [show (8 * j + k) / 8 = j by omega, show (8 * j + k) % 8 = k by omega] at this
theorem wrTo_zero (u : List Bool) : wrTo u 0 = zeros 4096 := by
  refine bits_ext (wrTo_length _ _) (by simp [zeros]) fun m hm => ?_
  rw [bitOf_wrTo _ _ _ hm]
  simp only [Nat.not_lt_zero, decide_false, Bool.false_and]
  unfold bitOf
  have : bat (zeros 4096) (m / 8) = 0 := by
    unfold bat zeros
    rw [List.getD_eq_getElem?_getD, List.getElem?_replicate]
    split <;> rfl
  rw [this]
  simp [bitN]
theorem wrTo_skip (u : List Bool) (n : Nat) (h : u.getD n false = false) : wrTo u (n + 1) = wrTo u n := by
  refine bits_ext (wrTo_length _ _) (wrTo_length _ _) fun m hm => ?_
  rw [bitOf_wrTo _ _ _ hm, bitOf_wrTo _ _ _ hm]
  by_cases e : m = n
  · subst e; rw [h]; simp
  · congr 1
    simp only [decide_eq_decide]
    omega
theorem wrTo_set (u : List Bool) (n : Nat) (hn : n < 32768) (h : u.getD n false = true) : (wrTo u n).set (n / 8) (UInt8.ofNat ((bat (wrTo u n) (n / 8)).toNat ||| 2 ^ (n % 8))) = wrTo u (n + 1) := by
  refine bits_ext (by rw [List.length_set, wrTo_length]) (wrTo_length _ _) fun m hm => ?_
  rw [bitOf_wrTo _ _ _ hm]
  unfold bitOf
  rw [bat_set _ _ _ _ (by rw [wrTo_length]; omega)]
  by_cases e : n / 8 = m / 8
  · rw [if_pos e, bitN_or _ _ _ (by omega) (by omega)]
    have := bitOf_wrTo u n m hm
    unfold bitOf at this
    rw [e, this]
    by_cases e2 : m = n
    · subst e2; rw [h]; simp
    · have : ¬ n % 8 = m % 8 := by omega
      simp only [this, decide_false, Bool.or_false]
      congr 1
      simp only [decide_eq_decide]
      omega
  · rw [if_neg e]
    have := bitOf_wrTo u n m hm
    unfold bitOf at this
    rw [this]
    congr 1
    simp only [decide_eq_decide]
    omega
/-- Is it a block of bits of so many blocks, of which the first are taken? -/
def goodB (b : List UInt8) (da n : Nat) : Bool := (List.range da).all (bitOf b) && (wrB (usedOf b n) == b)
theorem usedOf_wrB (u : List Bool) (h : u.length ≤ 32768) : usedOf (wrB u) u.length = u := by
  refine List.ext_getElem? fun k => ?_
  by_cases hk : k < u.length
  · rw [usedOf_at _ _ _ hk, wrB, bitOf_wrTo _ _ _ (by omega)]
    simp [hk]
  · rw [List.getElem?_eq_none (by rw [usedOf_length]; omega), List.getElem?_eq_none (by omega)]
end Go.Proofs.Ytahlhdhljjpeoaa

/- bits.written. -/
namespace Go.Proofs.Ytahlhdhljjpeoaa
open Go.RowKit
variable {Q : Nat → Prop}
set_option maxHeartbeats 1500000
set_option maxRecDepth 100000
set_option linter.unusedVariables false
set_option linter.unusedSimpArgs false

theorem or8 (a b : Nat) (ha : a < 256) (hb : b < 256) : bits .or .u8 (a : Int) (b : Int) = ((a ||| b : Nat) : Int) :=
  (bits_nat .u8 8 (by decide) (fun n h0 h1 => IntWalk.u8_in n (by omega)) a b (by simpa using ha) (by simpa using hb)).2
theorem and8 (a b : Nat) (ha : a < 256) (hb : b < 256) : bits .and .u8 (a : Int) (b : Int) = ((a &&& b : Nat) : Int) :=
  (bits_nat .u8 8 (by decide) (fun n h0 h1 => IntWalk.u8_in n (by omega)) a b (by simpa using ha) (by simpa using hb)).1
/-- Truths that lie there. -/
def BvL (u : List Bool) : List Value := u.map Value.bool
theorem BvL_length (u : List Bool) : (BvL u).length = u.length := by simp [BvL]
theorem cells7b {w : World} {g : Nat} {t : TypeId} {x0 x1 x2 x3 x4 x5 x6 : Value} (h : w.heap[g]? = some (.cells #[x0, x1, x2, x3, x4, x5, x6] t (0, 0))) :
    w.cell? ⟨g, 0, none⟩ = some x0 ∧ w.cell? ⟨g, 1, none⟩ = some x1 ∧ w.cell? ⟨g, 2, none⟩ = some x2 ∧ w.cell? ⟨g, 3, none⟩ = some x3 ∧ w.cell? ⟨g, 4, none⟩ = some x4 ∧ w.cell? ⟨g, 5, none⟩ = some x5 ∧ w.cell? ⟨g, 6, none⟩ = some x6 := by
  refine ⟨?_, ?_, ?_, ?_, ?_, ?_, ?_⟩ <;> (rw [cell_of_row _ _ _ _ _ _ h]; rfl)
theorem RdV.at_ {w : World} {a : Option Addr} {xs : List Value} (h : RdV w a xs) (hn : xs ≠ []) : ∃ b off, a = some ⟨b, off, none⟩ ∧ ∀ (j : Nat) (u : Value), xs[j]? = some u → w.cell? ⟨b, off + j, none⟩ = some u := h hn
theorem RdV.kept {w w' : World} {a : Option Addr} {xs : List Value} (h : RdV w a xs) (k : Below w.heap.size w w') : RdV w' a xs := by
  intro hn
  obtain ⟨b, off, rfl, hc⟩ := h hn
  exact ⟨b, off, rfl, fun j u hu => cell_below k (hc j u hu)⟩
theorem written_any (w : World) (l : Lay) (hR : rightL l = true) (a : Option Addr) (N c : Nat) (u : List Bool) (hN : N = u.length) (hbl : (u.length : Int) ≤ l.bl) (hr : RdV w a (BvL u)) :
    Calls Try.prog 61 #[l.val, .slice a N c] w fun e w' => ∃ g, e = .returned (.slice (some ⟨g, 0, none⟩) 4096 4096) ∧ OwnB w.heap.size w' (some ⟨g, 0, none⟩) 4096 (wrB u) ∧ Below w.heap.size w w' := by
  have hlt5 := (right_lt hR).1
  have hN5 : N ≤ 512 := by omega
  have BT := fun (W : World) (k : Nat) (hk : k < N) => Bit_any W l (k : Int) (by omega)
  have BY : ∀ k : Nat, k < N → bitB l (k : Int) = ((k / 8 : Nat) : Int) ∧ bitV l (k : Int) = 2 ^ (k % 8) ∧ errB l (k : Int) = 0 := by
    intro k hk
    obtain ⟨h1, h2, h3⟩ := bit_yes hR (show bitOk l (k : Int) = true by unfold bitOk; simp; omega)
    refine ⟨by rw [h1]; omega, ?_, h3⟩
    rw [h2, show ((k : Int) % 8).toNat = k % 8 by omega]
  have HBT := hid BT; have HBY := hid BY; have HN := hid hN; have HR := hid hr
  clear BT BY hR hN hr hbl hlt5
  obtain ⟨b0, b1, b2, b3, b4, b5, b6⟩ := l
  simp only [Lay.val] at HBT ⊢
  have hmk := fun W => run_mkB 4096 4096 4096 rfl rfl (by omega) W
  have hz4 := fun (W : World) (hb : W.heap.size ≤ W.heap.size) => OwnB.made W 4096 hb (by omega)
  obtain ⟨Z, hZ⟩ : ∃ Z : Array Value, Z = madeCells #[.int .u8 0] 4096 := ⟨_, rfl⟩
  simp only [← hZ] at hmk hz4
  clear hZ
  have hrow := heap_alloc_new w (.cells #[.int .i64 b0, .int .i64 b1, .int .i64 b2, .int .i64 b3, .int .i64 b4, .int .i64 b5, .int .i64 b6] 39)
  have hb1 : Below w.heap.size w (w.alloc (.cells #[.int .i64 b0, .int .i64 b1, .int .i64 b2, .int .i64 b3, .int .i64 b4, .int .i64 b5, .int .i64 b6] 39)) := (Below.refl _ _).alloc (Nat.le_refl _) _
  have hz1 : (w.alloc (.cells #[.int .i64 b0, .int .i64 b1, .int .i64 b2, .int .i64 b3, .int .i64 b4, .int .i64 b5, .int .i64 b6] 39)).heap.size = w.heap.size + 1 := by simp
  have ho0 := hz4 (w.alloc (.cells #[.int .i64 b0, .int .i64 b1, .int .i64 b2, .int .i64 b3, .int .i64 b4, .int .i64 b5, .int .i64 b6] 39)) (Nat.le_refl _)
  have hb2 : Below (w.alloc (.cells #[.int .i64 b0, .int .i64 b1, .int .i64 b2, .int .i64 b3, .int .i64 b4, .int .i64 b5, .int .i64 b6] 39)).heap.size (w.alloc (.cells #[.int .i64 b0, .int .i64 b1, .int .i64 b2, .int .i64 b3, .int .i64 b4, .int .i64 b5, .int .i64 b6] 39)) ((w.alloc (.cells #[.int .i64 b0, .int .i64 b1, .int .i64 b2, .int .i64 b3, .int .i64 b4, .int .i64 b5, .int .i64 b6] 39)).alloc (.cells Z 5)) := (Below.refl _ _).alloc (Nat.le_refl _) _
  have hrow2 := (hb2.block _ (heap_in hrow)).trans hrow
  have hb02 := hb1.trans (hb2.mono hb1.size)
  rw [hz1] at ho0
  have HO0 := hid (ho0.mono (Nat.le_succ _)); have HROW := hid hrow2; have HB0 := hid hb02
  clear hrow hb1 hz1 ho0 hb2 hrow2 hb02 hz4
  go_enter Try.func61, Try.ntmps61
  go_wp2_with fail
  go_loopw [14] (fun i wr => ∃ k : Nat, k ≤ N ∧ i = .int .i64 ((k : Nat) : Int) ∧ OwnB w.heap.size wr (some ⟨w.heap.size + 1, 0, none⟩) 4096 (wrTo u k) ∧ wr.heap[w.heap.size]? = some (.cells #[.int .i64 b0, .int .i64 b1, .int .i64 b2, .int .i64 b3, .int .i64 b4, .int .i64 b5, .int .i64 b6] 39 (0, 0)) ∧ Below w.heap.size w wr) (fun i _ => N - (intOf i).toNat)
  case atStart => exact ⟨0, Nat.zero_le _, rfl, by rw [wrTo_zero]; exact HO0.out, HROW.out, HB0.out⟩
  case round => as_aux_lemma =>
    obtain ⟨k, hk, rfl, ho, hw, hb⟩ := hrel
    by_cases hlt : k < N
    · obtain ⟨v, hv⟩ : ∃ v, u[k]? = some v := ⟨u[k]'(by have := HN.out; omega), List.getElem?_eq_getElem _⟩
      obtain ⟨b, off, ha, hc⟩ := (HR.out.kept hb).at_ (by intro e; have := BvL_length u; rw [e] at this; have := HN.out; simp at *; omega)
      subst ha
      have m0 := hc k (.bool v) (by simp [BvL, hv])
      have hgd : u.getD k false = v := by simp [List.getD_eq_getElem?_getD, hv]
      obtain ⟨y0, y1, y2, y3, y4, y5, y6⟩ := cells7b hw
      cases v with
      | false =>
        have HS := hid (wrTo_skip u k hgd)
        have HO := hid ho; have HB := hid hb; have HW := hid hw
        clear hc hv hgd ho hb hw y0 y1 y2 y3 y4 y5 y6
        go_wp2_with fail
        go_roundw
        case rel => exact ⟨k + 1, by omega, by go_num, by rw [HS.out]; exact HO.out, HW.out, HB.out⟩
        case measure => simp [intOf]; omega
      | true =>
        have BT := HBT.out wr k hlt
        obtain ⟨e1, e2, e3⟩ := HBY.out k hlt
        rw [e1, e2, e3] at BT
        have HS := hid (wrTo_set u k (by omega) hgd)
        have hz := hb.size
        obtain ⟨p, hp⟩ : ∃ p, p = k / 8 := ⟨_, rfl⟩
        have hp4 : p < 4096 := by omega
        have hpI : (p : Int) < 4096 := by omega
        rw [← hp] at BT
        have hq : 2 ^ (k % 8) < 256 := by
          have : ∀ r, r < 8 → 2 ^ r < 256 := by decide
          exact this _ (by omega)
        generalize hqe : 2 ^ (k % 8) = q at BT hq
        have HP := hid hp; have HQ := hid hqe
        have HO := hid ho; have HB := hid hb; have HW := hid hw
        clear hc hv hgd e1 e2 e3 ho hb hw hp hqe
        go_wp2_with fail
        refine BT.mono ?_
        rintro e w3 ⟨rfl, b3⟩
        clear BT y0 y1 y2 y3 y4 y5 y6 m0
        have ho3 := HO.out.below b3
        have hl3 := wrTo_length u k
        obtain ⟨_, e, _, x0, xf⟩ := ho3.at_ (by intro e; rw [e] at hl3; exact absurd hl3 (by decide))
        have e := Option.some.inj e
        simp only [Addr.mk.injEq, and_true] at e
        subst e
        have x1 := x0 p (by rw [hl3]; exact hp4)
        have xf1 := xf p
        have hx := (bat (wrTo u k) p).toNat_lt
        have hor := or8 (bat (wrTo u k) p).toNat q hx hq
        have hx8 : ((bat (wrTo u k) p).toNat ||| q) < 256 := Nat.or_lt_two_pow (n := 8) hx hq
        have ho4 := ho3.store p (UInt8.ofNat ((bat (wrTo u k) p).toNat ||| q))
        have hval : ((UInt8.ofNat ((bat (wrTo u k) p).toNat ||| q)).toNat : Int) = (((bat (wrTo u k) p).toNat ||| q : Nat) : Int) := by rw [UInt8.toNat_ofNat_of_lt' hx8]
        rw [hval] at ho4
        have e4 : (wrTo u k).set p (UInt8.ofNat ((bat (wrTo u k) p).toNat ||| q)) = wrTo u (k + 1) := by
          rw [HP.out, ← HQ.out]
          exact HS.out
        rw [e4] at ho4
        have hb3 := HB.out.trans (b3.mono HB.out.size)
        have hw3 := (b3.block _ (heap_in HW.out)).trans HW.out
        generalize (bat (wrTo u k) p).toNat = X at *
        generalize X ||| q = Y at *
        have K4 : Kpt (fun b => b = w.heap.size + 1) w3 (w3.setCell ⟨w.heap.size + 1, p, none⟩ (.int .u8 (Y : Int))) := (Kpt.setCell (Kpt.refl (fun b => b = w.heap.size + 1) w3) rfl _)
        have HO4 := hid ho4; have HW4 := hid ((K4.block _ (heap_in hw3) (by omega)).trans hw3); have HB4 := hid (hb3.setCell (p := ⟨w.heap.size + 1, p, none⟩) (Nat.le_succ _) (.int .u8 (Y : Int)))
        clear ho3 hl3 x0 xf ho4 hval e4 hb3 hw3 K4 b3 hx8 hx
        go_wp2_with fail
        go_roundw
        case rel => exact ⟨k + 1, by omega, by go_num, HO4.out, HW4.out, HB4.out⟩
        case measure => simp [intOf]; omega
    · obtain rfl : k = N := by omega
      have HO := hid ho; have HB := hid hb
      clear ho hw hb
      go_wp2
      go_ret
      exact ⟨w.heap.size + 1, rfl, by rw [wrB, ← HN.out]; exact HO.out, HB.out⟩
end Go.Proofs.Ytahlhdhljjpeoaa

/- slices.Contains on truths. -/
namespace Go.Proofs.Ytahlhdhljjpeoaa
open Go.RowKit
set_option maxHeartbeats 1500000
set_option maxRecDepth 100000
set_option linter.unusedVariables false
set_option linter.unusedSimpArgs false

theorem Index_any (w : World) (a : Option Addr) (N c : Nat) (u : List Bool) (hN : N = u.length) (hl : N ≤ 1000000) (hr : RdV w a (BvL u)) (v : Bool) :
    Calls Try.prog 98 #[.slice a N c, .bool v] w fun e w' => (∃ i : Int, e = .returned (.int .i64 i) ∧ decide (0 ≤ i) = u.contains v ∧ -1 ≤ i ∧ i ≤ 1000000) ∧ w = w' := by
  have HN := hid hN; have HR := hid hr
  clear hN hr
  go_enter Try.func98, Try.ntmps98
  go_wp2_with fail
  go_loopw [8] (fun i wr => ∃ k : Nat, k ≤ N ∧ i = .int .i64 ((k : Nat) : Int) ∧ (u.take k).contains v = false ∧ w = wr) (fun i _ => N - (intOf i).toNat)
  case atStart => exact ⟨0, Nat.zero_le _, rfl, rfl, rfl⟩
  case round => as_aux_lemma =>
    obtain ⟨k, hk, rfl, hc, rfl⟩ := hrel
    by_cases hlt : k < N
    · obtain ⟨x, hx⟩ : ∃ x, u[k]? = some x := ⟨u[k]'(by have := HN.out; omega), List.getElem?_eq_getElem _⟩
      obtain ⟨b, off, rfl, hcell⟩ := HR.out.at_ (by intro e; have := BvL_length u; rw [e] at this; have := HN.out; simp at *; omega)
      have m0 := hcell k (.bool x) (by simp [BvL, hx])
      have ht : u.take (k + 1) = u.take k ++ [x] := by rw [List.take_add_one, hx]; rfl
      by_cases e : v = x
      · subst e
        have hv : (v == v) = true := by simp
        have HC : Hid (u.contains v = true) := hid (by rw [List.contains_iff_mem]; exact List.mem_of_getElem? hx)
        clear hcell hx ht hc
        go_wp2
        go_ret
        exact ⟨⟨(k : Int), rfl, by rw [HC.out]; simp, by omega, by omega⟩, rfl⟩
      · have hv : (v == x) = false := by simpa using e
        have HC : Hid ((u.take (k + 1)).contains v = false) := hid (by
          rw [ht]
          rw [Bool.eq_false_iff] at hc ⊢
          intro h
          rw [List.contains_iff_mem, List.mem_append] at h
          rcases h with h | h
          · exact hc (List.contains_iff_mem.2 h)
          · exact e (List.mem_singleton.1 h))
        clear hcell hx ht hc e
        go_wp2_with fail
        go_roundw
        case rel => exact ⟨k + 1, by omega, by go_num, HC.out, by first | rfl | trivial⟩
        case measure => simp [intOf]; omega
    · obtain rfl : k = N := by omega
      rw [List.take_of_length_le (by rw [← HN.out]; exact Nat.le_refl _)] at hc
      have HC := hid hc
      clear hc
      go_wp2
      go_ret
      exact ⟨⟨-1, rfl, by rw [HC.out]; rfl, by omega, by omega⟩, by first | rfl | trivial⟩
theorem Contains_any (w : World) (a : Option Addr) (N c : Nat) (u : List Bool) (hN : N = u.length) (hl : N ≤ 1000000) (hr : RdV w a (BvL u)) (v : Bool) :
    Calls Try.prog 60 #[.slice a N c, .bool v] w fun e w' => e = .returned (.bool (u.contains v)) ∧ w = w' := by
  have IX := Index_any w a N c u hN hl hr v
  clear hN hr
  go_enter Try.func60, Try.ntmps60
  go_wp2_with fail
  refine IX.mono ?_
  rintro e w1 ⟨⟨i, rfl, hi, h1, h2⟩, rfl⟩
  have HI := hid hi
  clear IX hi
  go_wp2
  go_ret
  exact ⟨by rw [← HI.out]; rfl, rfl⟩
theorem used_no (b : List UInt8) (n da : Nat) (h : da ≤ n) : ((usedOf b n).take da).contains false = !(List.range da).all (bitOf b) := by
  have e : (usedOf b n).take da = usedOf b da := by
    unfold usedOf
    rw [← List.map_take, List.take_range, Nat.min_eq_left h]
  rw [e]
  cases hA : (List.range da).all (bitOf b) with
  | true =>
    rw [Bool.not_true, Bool.eq_false_iff]
    intro hc
    rw [List.contains_iff_mem] at hc
    obtain ⟨k, hk, he⟩ := List.mem_map.1 hc
    have := List.all_eq_true.1 hA k hk
    rw [this] at he
    cases he
  | false =>
    rw [Bool.not_false, List.contains_iff_mem]
    obtain ⟨k, hk, he⟩ := List.all_eq_false.1 hA
    exact List.mem_map.2 ⟨k, hk, by simpa using he⟩
end Go.Proofs.Ytahlhdhljjpeoaa
