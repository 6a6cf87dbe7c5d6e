/- The walk of LayoutParts. -/
import Derived.Test.YtockodckpmfajaaLaw05
import Derived.Test.YtockodckpmfajaaPick
import Derived.Deep.QuietTactic
import Derived.BigQuiet
import Derived.Deep.DeepCutAuto
namespace Go.Proofs.Ytockodckpmfajaa
open Go.RowKit
set_option maxHeartbeats 3200000
set_option linter.unusedVariables false
set_option linter.unusedSimpArgs false

theorem two_pows {r : Nat} (h : r < 8) : 1 ≤ 2 ^ r ∧ 2 ^ r ≤ 128 ∧ bits .and .u8 ((2 ^ r : Nat) : Int) (((2 ^ r : Nat) : Int) - 1) = 0 := by
  have : ∀ r, r < 8 → 1 ≤ 2 ^ r ∧ 2 ^ r ≤ 128 ∧ bits .and .u8 ((2 ^ r : Nat) : Int) (((2 ^ r : Nat) : Int) - 1) = 0 := by decide +kernel
  exact this r h
theorem two_inj {r s : Nat} (hr : r < 8) (hs : s < 8) (h : 2 ^ r = 2 ^ s) : r = s := by
  have : ∀ r, r < 8 → ∀ s, s < 8 → 2 ^ r = 2 ^ s → r = s := by decide +kernel
  exact this r hr s hs h
/-- What is known of two numbers' places. -/
def Two (a b c d n m : Nat) : Prop := (n = m ∧ a = b ∧ c = d) ∨ (¬ n = m ∧ ¬ a = b) ∨ (¬ n = m ∧ a = b ∧ ¬ c = d)
theorem two_inodes (p q : Nat) : Two (p / 64) (q / 64) (p % 64) (q % 64) p q := by unfold Two; omega
theorem two_bits (p q : Nat) : Two (p / 8) (q / 8) (2 ^ (p % 8)) (2 ^ (q % 8)) p q := by
  have h : 2 ^ (p % 8) = 2 ^ (q % 8) → p % 8 = q % 8 := two_inj (by omega) (by omega)
  unfold Two
  by_cases e : p % 8 = q % 8
  · rw [e]; omega
  · have : ¬ 2 ^ (p % 8) = 2 ^ (q % 8) := fun h' => e (h h')
    omega
theorem keptD {w w1 : World} {o : Obj} {n : Nat} (b : Below ((w.alloc o).drewN n).heap.size ((w.alloc o).drewN n) w1) : w1.heap[w.heap.size]? = some o := (b.block w.heap.size (by simp)).trans (heap_alloc_new w o)
theorem keptE {w w1 : World} {g n : Nat} {o : Obj} (b : Below (w.drewN n).heap.size (w.drewN n) w1) (h : w.heap[g]? = some o) : w1.heap[g]? = some o := (b.block g (heap_lt h)).trans h
set_option maxRecDepth 100000 in
theorem LayoutParts_any (w : World) (x y z : Int) (hx : -9223372036854775808 ≤ x ∧ x ≤ 9223372036854775807) (hy : -9223372036854775808 ≤ y ∧ y ≤ 9223372036854775807) (hz : -9223372036854775808 ≤ z ∧ z ≤ 9223372036854775807) :
    Calls Try.prog 5 #[.int .i64 x, .int .i64 y, .int .i64 z] w fun e w' => e = .returned (.bool true) ∧ Below w.heap.size w w' := by
  have hp := pickN_lt x 449 (by decide)
  have PX := fun w => Pick_val w x 449 449 rfl hx (by decide) (by decide)
  obtain ⟨p, ep⟩ : ∃ p, p = pickN x 449 := ⟨_, rfl⟩
  rw [← ep] at hp PX
  clear ep
  have OF := fun w => Of_any w (64 + (p : Int))
  have hok : okN (64 + (p : Int)) = true := by simp [okN]; omega
  have hr := ringL_bd (n := 64 + (p : Int)) (by omega) (by omega)
  have eL : ofL (64 + (p : Int)) = _ := if_pos hok
  have hR : rightL (ofL (64 + (p : Int))) = true := by
    rw [rightL, eL]; simp only [hok, Bool.true_and, decide_eq_true_eq]; exact eL
  have IN := fun w n hn => Inode_any w (ofL (64 + (p : Int))) n hn
  have BI := fun w n hn => Bit_any w (ofL (64 + (p : Int))) n hn
  have IY := fun n h => ino_yes (l := ofL (64 + (p : Int))) (n := n) h
  have BY := fun n h => bit_yes (l := ofL (64 + (p : Int))) (n := n) hR h
  have OK := fun n => (show inoOk (ofL (64 + (p : Int))) n = (true && decide (1 ≤ n ∧ n ≤ (ofL (64 + (p : Int))).ib * 64)) by rw [inoOk, hR])
  have BK := fun n => (show bitOk (ofL (64 + (p : Int))) n = decide (0 ≤ n ∧ n < (ofL (64 + (p : Int))).bl) from rfl)
  rw [eL] at OF IN BI IY BY OK BK
  rw [show errN (64 + (p : Int)) = 0 by simp [errN, hok]] at OF
  simp only [Lay.val] at OF IN BI IY BY OK BK
  clear eL hok hR
  obtain ⟨L, hL⟩ := Int.eq_ofNat_of_zero_le (show 0 ≤ ringL (64 + (p : Int)) by omega)
  obtain ⟨I, hI⟩ := Int.eq_ofNat_of_zero_le (show 0 ≤ (64 + (p : Int)) / 16 by omega)
  obtain ⟨B, hB⟩ := Int.eq_ofNat_of_zero_le (show 0 ≤ (64 + (p : Int)) by omega)
  have bd : 16 ≤ L ∧ L ≤ 64 ∧ 4 ≤ I ∧ I ≤ 32 ∧ 64 ≤ B ∧ B ≤ 512 ∧ 3 + L + I < B := by omega
  rw [hL, hI] at OF IN BI IY BY OK BK
  have hB64 : (64 : Int) + (p : Int) ≤ 512 := by omega
  have OF' : ∀ w, Calls Try.prog 6 #[.int .i64 (64 + (p : Int))] w fun e w' => e = .returned (.tuple #[.agg #[.int .i64 (B : Int), .int .i64 2, .int .i64 (L : Int), .int .i64 (2 + (L : Int)), .int .i64 (2 + (L : Int) + 1), .int .i64 (I : Int), .int .i64 (2 + (L : Int) + 1 + (I : Int))], .int .i64 0]) ∧ Below w.heap.size w w' := by
    intro w
    have := OF w
    rw [hB] at this ⊢
    exact this
  rw [hB] at IN BI IY BY OK BK
  clear OF hr hL hI hB
  have bd := hid bd
  obtain ⟨b1, b2, b3, b4, b5, b6, b7⟩ := bd.out
  clear bd
  have h1 := pickN_lt y (64 * I) (by omega)
  have h2 := pickN_lt z (64 * I) (by omega)
  have h3 := pickN_lt y B (by omega)
  have h4 := pickN_lt z B (by omega)
  have P1 := fun w => Pick_val w y (64 * (I : Int)) (64 * I) (by omega) hy (by omega) (by omega)
  have P2 := fun w => Pick_val w z (64 * (I : Int)) (64 * I) (by omega) hz (by omega) (by omega)
  have P3 := fun w => Pick_val w y (B : Int) B rfl hy (by omega) (by omega)
  have P4 := fun w => Pick_val w z (B : Int) B rfl hz (by omega) (by omega)
  generalize pickN y (64 * I) = p1 at h1 P1
  generalize pickN z (64 * I) = p2 at h2 P2
  generalize pickN y B = p3 at h3 P3
  generalize pickN z B = p4 at h4 P4
  have I1 : ∀ w (q : Nat), q < 64 * I → Calls Try.prog 7 #[.agg #[.int .i64 (B : Int), .int .i64 2, .int .i64 (L : Int), .int .i64 (2 + (L : Int)), .int .i64 (2 + (L : Int) + 1), .int .i64 (I : Int), .int .i64 (2 + (L : Int) + 1 + (I : Int))], .int .i64 (1 + (q : Int))] w fun e w' => e = .returned (.tuple #[.int .i64 (2 + (L : Int) + 1 + ((q / 64 : Nat) : Int)), .int .i64 (((q % 64 : Nat) : Int) * 64), .int .i64 0]) ∧ Below w.heap.size w w' := by
    intro w q hq
    have := IN w (1 + (q : Int)) (by omega)
    obtain ⟨a1, a2, a3⟩ := IY (1 + (q : Int)) (by rw [OK]; simp; omega)
    rw [a1, a2, a3, show (1 + (q : Int) - 1) / 64 = ((q / 64 : Nat) : Int) by omega, show (1 + (q : Int) - 1) % 64 = ((q % 64 : Nat) : Int) by omega] at this
    exact this
  have B1 : ∀ w (q : Nat), q < B → Calls Try.prog 8 #[.agg #[.int .i64 (B : Int), .int .i64 2, .int .i64 (L : Int), .int .i64 (2 + (L : Int)), .int .i64 (2 + (L : Int) + 1), .int .i64 (I : Int), .int .i64 (2 + (L : Int) + 1 + (I : Int))], .int .i64 (q : Int)] w fun e w' => e = .returned (.tuple #[.int .i64 ((q / 8 : Nat) : Int), .int .u8 ((2 ^ (q % 8) : Nat) : Int), .int .i64 0]) ∧ Below w.heap.size w w' := by
    intro w q hq
    have := BI w (q : Int) (by omega)
    obtain ⟨a1, a2, a3⟩ := BY (q : Int) (by rw [BK]; simp; omega)
    rw [a1, a2, a3, show (q : Int) / 8 = ((q / 8 : Nat) : Int) by omega, show ((q : Int) % 8).toNat = q % 8 by omega] at this
    exact this
  have I2 := fun w => I1 w p2 h2
  replace I1 := fun w => I1 w p1 h1
  have B2 := fun w => B1 w p4 h4
  replace B1 := fun w => B1 w p3 h3
  have t1 := two_inodes p1 p2
  have t2 := two_bits p3 p4
  have k1 : p1 / 64 < I ∧ p1 % 64 < 64 := by omega
  have k2 : p3 / 8 < 64 := by omega
  have k3 := two_pows (show p3 % 8 < 8 by omega)
  generalize p1 / 64 = q1 at t1 k1 I1
  generalize p2 / 64 = q2 at t1 I2
  generalize p1 % 64 = r1 at t1 k1 I1
  generalize p2 % 64 = r2 at t1 I2
  generalize p3 / 8 = s1 at t2 k2 B1
  generalize p4 / 8 = s2 at t2 B2
  generalize 2 ^ (p3 % 8) = v1 at t2 k3 B1
  generalize 2 ^ (p4 % 8) = v2 at t2 B2
  clear IN BI IY BY OK BK
  obtain ⟨k3, k4, k5⟩ := k3
  obtain ⟨ka, kb⟩ := k1
  go_enter Try.func5, Try.ntmps5
  go_wp2_with fail
  refine (PX _).mono ?_
  rintro e w' ⟨rfl, rfl⟩
  go_wp2_with fail
  refine (OF' _).mono ?_
  rintro e w1 ⟨rfl, b1⟩
  have bw1 := b1
  clear b1
  go_wp2_with fail
  have hw1 : IntKind.i64.wrap (64 * (I : Int)) = 64 * (I : Int) := IntWalk.i64_in _ (by omega)
  have hw2 : IntKind.i64.wrap (1 + (p1 : Int)) = 1 + (p1 : Int) := IntWalk.i64_in _ (by omega)
  have hw3 : IntKind.i64.wrap (1 + (p2 : Int)) = 1 + (p2 : Int) := IntWalk.i64_in _ (by omega)
  go_quiet (((first | (go_at_call_of 13 (y); exact Calls.quiet_of_same (P1 _)) | (go_at_call_of 13 (z); exact Calls.quiet_of_same (P2 _)))))
  clear hw1 hw2 hw3
  go_wp2_with fail
  refine (I1 _).mono ?_
  rintro e w2 ⟨rfl, bb⟩
  have bw2 := (bw1.alloc bw1.size _).trans ((below_drewN' (Below.refl (w1.alloc _).heap.size (w1.alloc _)) _).trans bb |>.mono (by have := bw1.size; simp; omega))
  have gl := hid (keptD bb)
  clear bb
  obtain ⟨c0, c1, c2, c3, c4, c5, c6⟩ := seven gl.out
  go_wp2_with fail
  refine (I2 _).mono ?_
  rintro e w3 ⟨rfl, bb⟩
  have bw3 := bw2.trans (bb.mono bw2.size)
  replace gl := hid (kept1 bb gl.out)
  clear bb c0 c1 c2 c3 c4 c5 c6
  obtain ⟨c0, c1, c2, c3, c4, c5, c6⟩ := seven gl.out
  clear I1 I2 P1 P2 OF' PX
  unfold Two at t1
  go_upto_region 7 with fail
  go_cut [147] (fun x wx => x = .bool false ∧ w3 = wx)
  case first =>
    rcases t1 with ⟨rfl, rfl, rfl⟩ | ⟨n1, n2⟩ | ⟨n1, rfl, n2⟩
    all_goals
      go_wp2_with fail
      go_meet
      refine ⟨congrArg Value.bool ?_, rfl⟩
      have z1 : decide (2 + (L : Int) + 1 + (q1 : Int) < 2 + (L : Int) + 1) = false := decide_eq_false (by omega)
      have z2 : decide (I ≤ q1) = false := decide_eq_false (by omega)
      have z3 : decide ((r1 : Int) * 64 < 0) = false := decide_eq_false (by omega)
      have z4 : decide ((4096 : Int) < (r1 : Int) * 64 + 64) = false := decide_eq_false (by omega)
      rw [z1, z2, z3, z4]
      first
      | rfl
      | (have z5 : ((1 : Int) + (p1 : Int) == 1 + (p2 : Int)) = false := beq_eq_false_iff_ne.2 (by omega)
         rw [z5]
         first
         | rfl
         | (have z6 : ((r1 : Int) * 64 == (r2 : Int) * 64) = false := beq_eq_false_iff_ne.2 (by omega)
            rw [z6]; rfl))
  obtain ⟨rfl, rfl⟩ := hcut
  clear t1
  go_wp2_with fail
  go_quiet (((first | (go_at_call_of 13 (y); exact Calls.quiet_of_same (P3 _)) | (go_at_call_of 13 (z); exact Calls.quiet_of_same (P4 _)))))
  go_wp2_with fail
  refine (B1 _).mono ?_
  rintro e w4 ⟨rfl, bb⟩
  have bw4 := bw3.trans ((below_drewN' (Below.refl w3.heap.size w3) _).trans bb |>.mono bw3.size)
  have gl := hid (keptE bb gl.out)
  clear bb c0 c1 c2 c3 c4 c5 c6
  obtain ⟨c0, c1, c2, c3, c4, c5, c6⟩ := seven gl.out
  go_wp2_with fail
  refine (B2 _).mono ?_
  rintro e w5 ⟨rfl, bb⟩
  have bw5 := bw4.trans (bb.mono bw4.size)
  clear bb c0 c1 c2 c3 c4 c5 c6
  have k5' := hid k5
  clear B1 B2 P3 P4
  unfold Two at t2
  rcases t2 with ⟨rfl, rfl, rfl⟩ | ⟨m1, m2⟩ | ⟨m1, rfl, m2⟩
  rotate_left 2
  · have mb1 : ((p3 : Int) == (p4 : Int)) = false := beq_eq_false_iff_ne.2 (by omega)
    have mb2 : ((v1 : Int) == (v2 : Int)) = false := beq_eq_false_iff_ne.2 (by omega)
    go_wp2_with fail
    refine (awake05_any _).mono ?_
    rintro e w6 ⟨rfl, bb⟩
    have bw6 := bw5.trans (bb.mono bw5.size)
    go_wp2
    go_ret
    refine ⟨?_, bw6⟩
    have hv : ((v1 : Int) != 0) = true := by simp; omega
    exact congrArg (fun b => Ending.returned (Value.bool b)) hv
  all_goals
    go_wp2_with fail
    refine (awake05_any _).mono ?_
    rintro e w6 ⟨rfl, bb⟩
    have bw6 := bw5.trans (bb.mono bw5.size)
    go_wp2
    go_ret
    refine ⟨?_, bw6⟩
    have hv : ((v1 : Int) != 0) = true := by simp; omega
    first
    | exact congrArg (fun b => Ending.returned (Value.bool b)) hv
    | (have hp : ((p3 : Int) == (p4 : Int)) = false := beq_eq_false_iff_ne.2 (by omega)
       have h2 : ((v1 : Int) != 0 && !(p3 : Int) == (p4 : Int)) = true := by rw [hv, hp]; rfl
       exact congrArg (fun b => Ending.returned (Value.bool b)) h2)
end Go.Proofs.Ytockodckpmfajaa
