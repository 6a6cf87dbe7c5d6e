/- The walk of DiskNumbers (printed by gen04d.py). -/
import Derived.Test.YtddejjmebokgiaaLaw04g
namespace Go.Proofs.Ytddejjmebokgiaa
open Go.RowKit
set_option maxHeartbeats 6400000
set_option maxRecDepth 100000
set_option linter.unusedVariables false
set_option linter.unusedSimpArgs false

theorem torn_none {a b : List UInt8} (h : a.length = 4096) : tornB a b 0 = a := by
  have e : tornB a b 0 = tornTo a b 0 0 := by
    unfold tornB tornTo
    apply List.map_congr_left
    intro k hk
    have : sb 0 (k / 512) = false := by simp [sb]
    simp [this]
  rw [e, tornTo_zero _ _ _ h]
theorem crash11 {M A C : List UInt8} (t : tornB M C 0 = M) : Dk.crash ⟨[M, A], [C, A], [0], [C], 6, true, false, (-1), false, 0⟩ [] 0 0 = ⟨[M, A], [M, A], [], [], 6, false, false, 0, false, 0⟩ := by
  have h : Dk.crash ⟨[M, A], [C, A], [0], [C], 6, true, false, (-1), false, 0⟩ [] 0 0 = ⟨[tornB M C 0, A], [tornB M C 0, A], [], [], 6, false, false, 0, false, 0⟩ := rfl
  rw [h, t]
theorem chunks_two {a b : List UInt8} (ha : a.length = 4096) (hb : b.length = 4096) : chunks (a ++ b) 2 = [a, b] := by
  have h : chunks (a ++ b) 2 = [((a ++ b).drop (0 * 4096)).take 4096, ((a ++ b).drop (1 * 4096)).take 4096] := rfl
  rw [h, show 0 * 4096 = 0 from rfl, List.drop_zero, List.take_left' ha, Nat.one_mul, List.drop_left' ha, List.take_of_length_le (Nat.le_of_eq hb)]
/-- Memory of so many noughts. -/
theorem mk_any (n : Nat) (x : Int) (hx : x = n) (hn : n ≤ 100000000) : ∃ MK : World → World, (∀ W, (Instr.makeSlice 30 (.int .i64 x) (.int .i64 x)).run Try.prog W = .ok (.slice (some ⟨W.heap.size, 0, none⟩) n n) (MK W)) ∧ ∀ W, Below W.heap.size W (MK W) :=
  ⟨fun W => W.alloc (.cells (madeCells #[.int .u8 0] n) 5), fun W => run_mkB n x x hx hx (by omega) W, fun W => (Below.refl _ _).alloc (Nat.le_refl _) _⟩

theorem DiskNumbers_any (w : World) : Calls Try.prog 7 #[] w fun e w' => e = .returned (.bool true) ∧ Below w.heap.size w w' := by
  have AW := awake04_any
  have NW := New_any w 2 (by decide) (by decide)
  have hnew : newDk 2 = ⟨[fillB 0, fillB 0], [fillB 0, fillB 0], [], [], 0, false, false, 0, false, 0⟩ := rfl
  rw [hnew] at NW
  clear hnew
  have NB0 := fun w => New_bad w 0 (by decide)
  have NB5 := fun w => New_bad w 513 (by decide)
  have NX := fun w => New_any w 512 (by decide) (by decide)
  have nX : (newDk 512).now.length = 512 := List.length_replicate
  have FA := fun w => filled_any w 65
  have FB := fun w => filled_any w 66
  have FZ := fun w => filled_any w 0
  have FC := fun w => filled_any w 7
  have F1 := fun w => filled_any w 1
  have F2 := fun w => filled_any w 2
  have MX := fun w => mixed_any w 65 66 128 (by decide)
  have lA := fillB_length 65; have lB := fillB_length 66; have lZ := fillB_length 0; have lC := fillB_length 7; have l1 := fillB_length 1; have l2 := fillB_length 2
  have tAB := torn_fill 65 66 128
  have lM : (mixTo 65 66 128 4096).length = 4096 := by simp only [mixTo, List.length_map, List.length_range]
  generalize newDk 512 = dX at *
  generalize fillB 65 = A at *
  generalize fillB 66 = B at *
  generalize fillB 0 = Z at *
  generalize fillB 7 = C at *
  generalize fillB 1 = O at *
  generalize fillB 2 = V at *
  generalize mixTo 65 66 128 4096 = M at *
  have tMC : tornB M C 0 = M := torn_none lM
  obtain ⟨d0, e0⟩ : ∃ d : Dk, d = ⟨[Z, Z], [Z, Z], [], [], 0, false, false, 0, false, 0⟩ := ⟨_, rfl⟩
  obtain ⟨d1, e1⟩ : ∃ d : Dk, d = ⟨[Z, Z], [A, Z], [0], [A], 1, false, false, 0, false, 0⟩ := ⟨_, rfl⟩
  obtain ⟨d2, e2⟩ : ∃ d : Dk, d = ⟨[Z, Z], [B, Z], [0, 0], [A, B], 2, false, false, 0, false, 0⟩ := ⟨_, rfl⟩
  obtain ⟨d3, e3⟩ : ∃ d : Dk, d = ⟨[Z, Z], [B, A], [0, 0, 1], [A, B, A], 3, false, false, 0, false, 0⟩ := ⟨_, rfl⟩
  obtain ⟨d4, e4⟩ : ∃ d : Dk, d = ⟨[B, A], [B, A], [], [], 3, false, false, 0, false, 0⟩ := ⟨_, rfl⟩
  obtain ⟨d5, e5⟩ : ∃ d : Dk, d = ⟨[B, A], [A, A], [0], [A], 4, false, false, 0, false, 0⟩ := ⟨_, rfl⟩
  obtain ⟨d6, e6⟩ : ∃ d : Dk, d = ⟨[A, A], [A, A], [], [], 4, false, false, 0, false, 0⟩ := ⟨_, rfl⟩
  obtain ⟨d7, e7⟩ : ∃ d : Dk, d = ⟨[A, A], [B, A], [0], [B], 5, false, false, 0, false, 0⟩ := ⟨_, rfl⟩
  obtain ⟨d8, e8⟩ : ∃ d : Dk, d = ⟨[M, A], [M, A], [], [], 5, false, false, 0, false, 0⟩ := ⟨_, rfl⟩
  obtain ⟨d9, e9⟩ : ∃ d : Dk, d = ⟨[M, A], [M, A], [], [], 5, false, true, 1, false, 0⟩ := ⟨_, rfl⟩
  obtain ⟨d10, e10⟩ : ∃ d : Dk, d = ⟨[M, A], [C, A], [0], [C], 6, false, true, 0, false, 0⟩ := ⟨_, rfl⟩
  obtain ⟨d11, e11⟩ : ∃ d : Dk, d = ⟨[M, A], [C, A], [0], [C], 6, true, false, (-1), false, 0⟩ := ⟨_, rfl⟩
  obtain ⟨d12, e12⟩ : ∃ d : Dk, d = ⟨[M, A], [M, A], [], [], 6, false, false, 0, false, 0⟩ := ⟨_, rfl⟩
  obtain ⟨d13, e13⟩ : ∃ d : Dk, d = ⟨[M, A], [M, A], [], [], 6, false, false, 0, true, 0⟩ := ⟨_, rfl⟩
  obtain ⟨d14, e14⟩ : ∃ d : Dk, d = ⟨[M, A], [M, A], [], [], 6, false, false, 0, false, (-1)⟩ := ⟨_, rfl⟩
  obtain ⟨d15, e15⟩ : ∃ d : Dk, d = ⟨[M, A], [M, A], [], [], 6, false, false, 0, true, 1⟩ := ⟨_, rfl⟩
  obtain ⟨d16, e16⟩ : ∃ d : Dk, d = ⟨[M, A], [M, A], [], [], 6, false, true, 1, true, 1⟩ := ⟨_, rfl⟩
  obtain ⟨d17, e17⟩ : ∃ d : Dk, d = ⟨[M, A], [M, A], [], [], 6, false, true, 0, true, 0⟩ := ⟨_, rfl⟩
  obtain ⟨d18, e18⟩ : ∃ d : Dk, d = ⟨[M, A], [M, A], [], [], 6, true, false, (-1), false, (-1)⟩ := ⟨_, rfl⟩
  obtain ⟨dc, hdc⟩ : ∃ d : Dk, d = d8.copy := ⟨_, rfl⟩
  have q0 : d0.wn.length < 1000000 := by rw [e0]; simp
  have q1 : d1.wn.length < 1000000 := by rw [e1]; simp
  have q2 : d2.wn.length < 1000000 := by rw [e2]; simp
  have q3 : d3.wn.length < 1000000 := by rw [e3]; simp
  have q4 : d4.wn.length < 1000000 := by rw [e4]; simp
  have q5 : d5.wn.length < 1000000 := by rw [e5]; simp
  have q6 : d6.wn.length < 1000000 := by rw [e6]; simp
  have q7 : d7.wn.length < 1000000 := by rw [e7]; simp
  have q8 : d8.wn.length < 1000000 := by rw [e8]; simp
  have q9 : d9.wn.length < 1000000 := by rw [e9]; simp
  have q10 : d10.wn.length < 1000000 := by rw [e10]; simp
  have q11 : d11.wn.length < 1000000 := by rw [e11]; simp
  have q12 : d12.wn.length < 1000000 := by rw [e12]; simp
  have q13 : d13.wn.length < 1000000 := by rw [e13]; simp
  have q14 : d14.wn.length < 1000000 := by rw [e14]; simp
  have q15 : d15.wn.length < 1000000 := by rw [e15]; simp
  have q16 : d16.wn.length < 1000000 := by rw [e16]; simp
  have q17 : d17.wn.length < 1000000 := by rw [e17]; simp
  have q18 : d18.wn.length < 1000000 := by rw [e18]; simp
  have pWA0_0 : d0.wrE 0 A = 0 ∧ d0.wrD 0 A = d1 := by
    rw [e0, e1]
    refine ⟨?_, ?_⟩ <;> simp [Dk.wrE, Dk.wrD, Dk.wrong, Dk.stopE, Dk.stopD, Dk.gone, Dk.put, Dk.flD, Dk.flush, Dk.arm, Dk.fail, gStop, gOn, gLeft, wrap64, lA]
  have pWB1_0 : d1.wrE 0 B = 0 ∧ d1.wrD 0 B = d2 := by
    rw [e1, e2]
    refine ⟨?_, ?_⟩ <;> simp [Dk.wrE, Dk.wrD, Dk.wrong, Dk.stopE, Dk.stopD, Dk.gone, Dk.put, Dk.flD, Dk.flush, Dk.arm, Dk.fail, gStop, gOn, gLeft, wrap64, lB]
  have pWA2_1 : d2.wrE 1 A = 0 ∧ d2.wrD 1 A = d3 := by
    rw [e2, e3]
    refine ⟨?_, ?_⟩ <;> simp [Dk.wrE, Dk.wrD, Dk.wrong, Dk.stopE, Dk.stopD, Dk.gone, Dk.put, Dk.flD, Dk.flush, Dk.arm, Dk.fail, gStop, gOn, gLeft, wrap64, lA]
  have pCR3 : d3.crash [false, true, true] 9 255 = d4 := by
    rw [e3, e4]
    rfl
  have pHS4_0_B : d4.hasB 0 B = true := by
    rw [e4]
    simp [Dk.hasB, Dk.rdE, Dk.rdB, Dk.wrong]
  have pHS4_1_A : d4.hasB 1 A = true := by
    rw [e4]
    simp [Dk.hasB, Dk.rdE, Dk.rdB, Dk.wrong]
  have pWR4 : d4.count = 3 := by
    rw [e4]
    try rfl
  have pWA4_0 : d4.wrE 0 A = 0 ∧ d4.wrD 0 A = d5 := by
    rw [e4, e5]
    refine ⟨?_, ?_⟩ <;> simp [Dk.wrE, Dk.wrD, Dk.wrong, Dk.stopE, Dk.stopD, Dk.gone, Dk.put, Dk.flD, Dk.flush, Dk.arm, Dk.fail, gStop, gOn, gLeft, wrap64, lA]
  have pFL5 : d5.stopE = 0 ∧ d5.flD = d6 := by
    rw [e5, e6]
    refine ⟨?_, ?_⟩ <;> simp [Dk.wrE, Dk.wrD, Dk.wrong, Dk.stopE, Dk.stopD, Dk.gone, Dk.put, Dk.flD, Dk.flush, Dk.arm, Dk.fail, gStop, gOn, gLeft, wrap64, List.length_nil]
  have pWB6_0 : d6.wrE 0 B = 0 ∧ d6.wrD 0 B = d7 := by
    rw [e6, e7]
    refine ⟨?_, ?_⟩ <;> simp [Dk.wrE, Dk.wrD, Dk.wrong, Dk.stopE, Dk.stopD, Dk.gone, Dk.put, Dk.flD, Dk.flush, Dk.arm, Dk.fail, gStop, gOn, gLeft, wrap64, lB]
  have pCR7 : d7.crash [true] 0 128 = d8 := by
    rw [e7, e8]
    rw [← tAB]; rfl
  have pHS8_0_M : d8.hasB 0 M = true := by
    rw [e8]
    simp [Dk.hasB, Dk.rdE, Dk.rdB, Dk.wrong]
  have pWR8 : d8.count = 5 := by
    rw [e8]
    try rfl
  have pCW : dc.count = 0 := by
    rw [hdc, e8]
    try rfl
  have pWZ8_2 : d8.wrE 2 Z = 70 ∧ d8.wrD 2 Z = d8 := by
    rw [e8]
    refine ⟨?_, ?_⟩ <;> simp [Dk.wrE, Dk.wrD, Dk.wrong, Dk.stopE, Dk.stopD, Dk.gone, Dk.put, Dk.flD, Dk.flush, Dk.arm, Dk.fail, gStop, gOn, gLeft, wrap64, lZ]
  have pWZ8_m : d8.wrE (-1) Z = 70 ∧ d8.wrD (-1) Z = d8 := by
    rw [e8]
    refine ⟨?_, ?_⟩ <;> simp [Dk.wrE, Dk.wrD, Dk.wrong, Dk.stopE, Dk.stopD, Dk.gone, Dk.put, Dk.flD, Dk.flush, Dk.arm, Dk.fail, gStop, gOn, gLeft, wrap64, lZ]
  have pWN8_0 : d8.wrE 0 [] = 2 ∧ d8.wrD 0 [] = d8 := by
    rw [e8]
    refine ⟨?_, ?_⟩ <;> simp [Dk.wrE, Dk.wrD, Dk.wrong, Dk.stopE, Dk.stopD, Dk.gone, Dk.put, Dk.flD, Dk.flush, Dk.arm, Dk.fail, gStop, gOn, gLeft, wrap64, List.length_nil]
  have pWN8_2 : d8.wrE 2 [] = 70 ∧ d8.wrD 2 [] = d8 := by
    rw [e8]
    refine ⟨?_, ?_⟩ <;> simp [Dk.wrE, Dk.wrD, Dk.wrong, Dk.stopE, Dk.stopD, Dk.gone, Dk.put, Dk.flD, Dk.flush, Dk.arm, Dk.fail, gStop, gOn, gLeft, wrap64, List.length_nil]
  have pArm8_1 : d8.arm 1 = d9 := by
    rw [e8, e9]
    simp [Dk.wrE, Dk.wrD, Dk.wrong, Dk.stopE, Dk.stopD, Dk.gone, Dk.put, Dk.flD, Dk.flush, Dk.arm, Dk.fail, gStop, gOn, gLeft, wrap64, List.length_nil]
  have pWC9_0 : d9.wrE 0 C = 0 ∧ d9.wrD 0 C = d10 := by
    rw [e9, e10]
    refine ⟨?_, ?_⟩ <;> simp [Dk.wrE, Dk.wrD, Dk.wrong, Dk.stopE, Dk.stopD, Dk.gone, Dk.put, Dk.flD, Dk.flush, Dk.arm, Dk.fail, gStop, gOn, gLeft, wrap64, lC]
  have pFL10 : d10.stopE = 6 ∧ d10.flD = d11 := by
    rw [e10, e11]
    refine ⟨?_, ?_⟩ <;> simp [Dk.wrE, Dk.wrD, Dk.wrong, Dk.stopE, Dk.stopD, Dk.gone, Dk.put, Dk.flD, Dk.flush, Dk.arm, Dk.fail, gStop, gOn, gLeft, wrap64, List.length_nil]
  have pWZ11_0 : d11.wrE 0 Z = 6 ∧ d11.wrD 0 Z = d11 := by
    rw [e11]
    refine ⟨?_, ?_⟩ <;> simp [Dk.wrE, Dk.wrD, Dk.wrong, Dk.stopE, Dk.stopD, Dk.gone, Dk.put, Dk.flD, Dk.flush, Dk.arm, Dk.fail, gStop, gOn, gLeft, wrap64, lZ]
  have pRD11_0 : d11.rdE 0 = 6 ∧ d11.rdB 0 = [] := by
    rw [e11]
    refine ⟨?_, ?_⟩ <;> simp [Dk.rdE, Dk.rdB, Dk.wrong]
  have pRD11_2 : d11.rdE 2 = 70 ∧ d11.rdB 2 = [] := by
    rw [e11]
    refine ⟨?_, ?_⟩ <;> simp [Dk.rdE, Dk.rdB, Dk.wrong]
  have pCR11 : d11.crash [] 0 0 = d12 := by
    rw [e11, e12]
    exact crash11 tMC
  have pHS12_0_M : d12.hasB 0 M = true := by
    rw [e12]
    simp [Dk.hasB, Dk.rdE, Dk.rdB, Dk.wrong]
  have pFail12_0 : d12.fail 0 = d13 := by
    rw [e12, e13]
    simp [Dk.wrE, Dk.wrD, Dk.wrong, Dk.stopE, Dk.stopD, Dk.gone, Dk.put, Dk.flD, Dk.flush, Dk.arm, Dk.fail, gStop, gOn, gLeft, wrap64, List.length_nil]
  have pFL13 : d13.stopE = 4 ∧ d13.flD = d14 := by
    rw [e13, e14]
    refine ⟨?_, ?_⟩ <;> simp [Dk.wrE, Dk.wrD, Dk.wrong, Dk.stopE, Dk.stopD, Dk.gone, Dk.put, Dk.flD, Dk.flush, Dk.arm, Dk.fail, gStop, gOn, gLeft, wrap64, List.length_nil]
  have pFL14 : d14.stopE = 0 ∧ d14.flD = d14 := by
    rw [e14]
    refine ⟨?_, ?_⟩ <;> simp [Dk.wrE, Dk.wrD, Dk.wrong, Dk.stopE, Dk.stopD, Dk.gone, Dk.put, Dk.flD, Dk.flush, Dk.arm, Dk.fail, gStop, gOn, gLeft, wrap64, List.length_nil]
  have pFail14_1 : d14.fail 1 = d15 := by
    rw [e14, e15]
    simp [Dk.wrE, Dk.wrD, Dk.wrong, Dk.stopE, Dk.stopD, Dk.gone, Dk.put, Dk.flD, Dk.flush, Dk.arm, Dk.fail, gStop, gOn, gLeft, wrap64, List.length_nil]
  have pArm15_1 : d15.arm 1 = d16 := by
    rw [e15, e16]
    simp [Dk.wrE, Dk.wrD, Dk.wrong, Dk.stopE, Dk.stopD, Dk.gone, Dk.put, Dk.flD, Dk.flush, Dk.arm, Dk.fail, gStop, gOn, gLeft, wrap64, List.length_nil]
  have pFL16 : d16.stopE = 0 ∧ d16.flD = d17 := by
    rw [e16, e17]
    refine ⟨?_, ?_⟩ <;> simp [Dk.wrE, Dk.wrD, Dk.wrong, Dk.stopE, Dk.stopD, Dk.gone, Dk.put, Dk.flD, Dk.flush, Dk.arm, Dk.fail, gStop, gOn, gLeft, wrap64, List.length_nil]
  have pFL17 : d17.stopE = 6 ∧ d17.flD = d18 := by
    rw [e17, e18]
    refine ⟨?_, ?_⟩ <;> simp [Dk.wrE, Dk.wrD, Dk.wrong, Dk.stopE, Dk.stopD, Dk.gone, Dk.put, Dk.flD, Dk.flush, Dk.arm, Dk.fail, gStop, gOn, gLeft, wrap64, List.length_nil]
  have pArm18_m : d18.arm (-1) = d18 := by
    rw [e18]
    simp [Dk.wrE, Dk.wrD, Dk.wrong, Dk.stopE, Dk.stopD, Dk.gone, Dk.put, Dk.flD, Dk.flush, Dk.arm, Dk.fail, gStop, gOn, gLeft, wrap64, List.length_nil]
  have pFail18_m : d18.fail (-1) = d18 := by
    rw [e18]
    simp [Dk.wrE, Dk.wrD, Dk.wrong, Dk.stopE, Dk.stopD, Dk.gone, Dk.put, Dk.flD, Dk.flush, Dk.arm, Dk.fail, gStop, gOn, gLeft, wrap64, List.length_nil]
  rw [← e0] at NW
  clear e0 e1 e2 e3 e4 e5 e6 e7 e8 e9 e10 e11 e12 e13 e14 e15 e16 e17 e18 tAB tMC
  have WA0_0 := fun (w0 : World) (D : Nat) (S : Nat → Prop) (b : Nat) (h : IsDk AnyB b w0 D S d0) (g : Nat) (hr : RdU w0 (some ⟨g, 0, none⟩) A) => Write_is w0 D h q0 0 (some ⟨g, 0, none⟩) 4096 4096 A lA.symm hr
  simp only [pWA0_0.1, pWA0_0.2] at WA0_0
  clear pWA0_0
  have WB1_0 := fun (w0 : World) (D : Nat) (S : Nat → Prop) (b : Nat) (h : IsDk AnyB b w0 D S d1) (g : Nat) (hr : RdU w0 (some ⟨g, 0, none⟩) B) => Write_is w0 D h q1 0 (some ⟨g, 0, none⟩) 4096 4096 B lB.symm hr
  simp only [pWB1_0.1, pWB1_0.2] at WB1_0
  clear pWB1_0
  have WA2_1 := fun (w0 : World) (D : Nat) (S : Nat → Prop) (b : Nat) (h : IsDk AnyB b w0 D S d2) (g : Nat) (hr : RdU w0 (some ⟨g, 0, none⟩) A) => Write_is w0 D h q2 1 (some ⟨g, 0, none⟩) 4096 4096 A lA.symm hr
  simp only [pWA2_1.1, pWA2_1.2] at WA2_1
  clear pWA2_1
  have CR3 := fun (w0 : World) (D : Nat) (S : Nat → Prop) (b : Nat) (h : IsDk AnyB b w0 D S d3) (g : Nat) (hr : RdV w0 (some ⟨g, 0, none⟩) (Bools [false, true, true])) (hka : ¬ S g) => Crash_is w0 D h (some ⟨g, 0, none⟩) 3 3 [false, true, true] rfl (by decide) hr (by rintro _ x off e; cases e; exact hka) 9 255 (by decide)
  simp only [pCR3] at CR3
  clear pCR3
  have HS4_0_B := fun (w0 : World) (D : Nat) (S : Nat → Prop) (b : Nat) (h : IsDk AnyB b w0 D S d4) (g : Nat) (hr : RdB w0 (some ⟨g, 0, none⟩) B) => has_is w0 D h 0 (some ⟨g, 0, none⟩) 4096 4096 B lB.symm hr
  simp only [pHS4_0_B] at HS4_0_B
  clear pHS4_0_B
  have HS4_1_A := fun (w0 : World) (D : Nat) (S : Nat → Prop) (b : Nat) (h : IsDk AnyB b w0 D S d4) (g : Nat) (hr : RdB w0 (some ⟨g, 0, none⟩) A) => has_is w0 D h 1 (some ⟨g, 0, none⟩) 4096 4096 A lA.symm hr
  simp only [pHS4_1_A] at HS4_1_A
  clear pHS4_1_A
  have WR4 := fun (w0 : World) (D : Nat) (S : Nat → Prop) (b : Nat) (h : IsDk AnyB b w0 D S d4) => Writes_is w0 D h
  simp only [pWR4] at WR4
  clear pWR4
  have WA4_0 := fun (w0 : World) (D : Nat) (S : Nat → Prop) (b : Nat) (h : IsDk AnyB b w0 D S d4) (g : Nat) (hr : RdU w0 (some ⟨g, 0, none⟩) A) => Write_is w0 D h q4 0 (some ⟨g, 0, none⟩) 4096 4096 A lA.symm hr
  simp only [pWA4_0.1, pWA4_0.2] at WA4_0
  clear pWA4_0
  have FL5 := fun (w0 : World) (D : Nat) (S : Nat → Prop) (b : Nat) (h : IsDk AnyB b w0 D S d5) => Flush_is w0 D h
  simp only [pFL5.1, pFL5.2] at FL5
  clear pFL5
  have WB6_0 := fun (w0 : World) (D : Nat) (S : Nat → Prop) (b : Nat) (h : IsDk AnyB b w0 D S d6) (g : Nat) (hr : RdU w0 (some ⟨g, 0, none⟩) B) => Write_is w0 D h q6 0 (some ⟨g, 0, none⟩) 4096 4096 B lB.symm hr
  simp only [pWB6_0.1, pWB6_0.2] at WB6_0
  clear pWB6_0
  have CR7 := fun (w0 : World) (D : Nat) (S : Nat → Prop) (b : Nat) (h : IsDk AnyB b w0 D S d7) (g : Nat) (hr : RdV w0 (some ⟨g, 0, none⟩) (Bools [true])) (hka : ¬ S g) => Crash_is w0 D h (some ⟨g, 0, none⟩) 1 1 [true] rfl (by decide) hr (by rintro _ x off e; cases e; exact hka) 0 128 (by decide)
  simp only [pCR7] at CR7
  clear pCR7
  have HS8_0_M := fun (w0 : World) (D : Nat) (S : Nat → Prop) (b : Nat) (h : IsDk AnyB b w0 D S d8) (g : Nat) (hr : RdB w0 (some ⟨g, 0, none⟩) M) => has_is w0 D h 0 (some ⟨g, 0, none⟩) 4096 4096 M lM.symm hr
  simp only [pHS8_0_M] at HS8_0_M
  clear pHS8_0_M
  have WR8 := fun (w0 : World) (D : Nat) (S : Nat → Prop) (b : Nat) (h : IsDk AnyB b w0 D S d8) => Writes_is w0 D h
  simp only [pWR8] at WR8
  clear pWR8
  have CP := fun (w0 : World) (D : Nat) (S : Nat → Prop) (b : Nat) (h : IsDk AnyB b w0 D S d8) => Copy_is w0 D h
  rw [← hdc] at CP
  have CW := fun (w0 : World) (D : Nat) (S : Nat → Prop) (b : Nat) (h : IsDk AnyB b w0 D S dc) => Writes_is w0 D h
  simp only [pCW] at CW
  clear pCW
  have WZ8_2 := fun (w0 : World) (D : Nat) (S : Nat → Prop) (b : Nat) (h : IsDk AnyB b w0 D S d8) (g : Nat) (hr : RdU w0 (some ⟨g, 0, none⟩) Z) => Write_is w0 D h q8 2 (some ⟨g, 0, none⟩) 4096 4096 Z lZ.symm hr
  simp only [pWZ8_2.1, pWZ8_2.2] at WZ8_2
  clear pWZ8_2
  have WZ8_m := fun (w0 : World) (D : Nat) (S : Nat → Prop) (b : Nat) (h : IsDk AnyB b w0 D S d8) (g : Nat) (hr : RdU w0 (some ⟨g, 0, none⟩) Z) => Write_is w0 D h q8 (-1) (some ⟨g, 0, none⟩) 4096 4096 Z lZ.symm hr
  simp only [pWZ8_m.1, pWZ8_m.2] at WZ8_m
  clear pWZ8_m
  have WN8_0 := fun (w0 : World) (D : Nat) (S : Nat → Prop) (b : Nat) (h : IsDk AnyB b w0 D S d8) => Write_is w0 D h q8 0 none 0 0 [] rfl (fun hh => absurd rfl hh)
  simp only [pWN8_0.1, pWN8_0.2] at WN8_0
  clear pWN8_0
  have WN8_2 := fun (w0 : World) (D : Nat) (S : Nat → Prop) (b : Nat) (h : IsDk AnyB b w0 D S d8) => Write_is w0 D h q8 2 none 0 0 [] rfl (fun hh => absurd rfl hh)
  simp only [pWN8_2.1, pWN8_2.2] at WN8_2
  clear pWN8_2
  have Arm8_1 := fun (w0 : World) (D : Nat) (S : Nat → Prop) (b : Nat) (h : IsDk AnyB b w0 D S d8) => (show Calls Try.prog 30 #[ptr D, .int .i64 1] w0 fun e w1 => e = .returned (.int .i64 0) ∧ IsDk AnyB b w1 D S (d8.arm 1) ∧ Kpt (fun b => b = D) w0 w1 from Arm_is w0 D h 1).mono (fun e w1 hh => (⟨hh.1, Turn.of hh.2.1 hh.2.2 h.inS⟩ : e = .returned (.int .i64 0) ∧ Turn AnyB b w0 D S w1 (d8.arm 1)))
  simp only [pArm8_1] at Arm8_1
  clear pArm8_1
  have WC9_0 := fun (w0 : World) (D : Nat) (S : Nat → Prop) (b : Nat) (h : IsDk AnyB b w0 D S d9) (g : Nat) (hr : RdU w0 (some ⟨g, 0, none⟩) C) => Write_is w0 D h q9 0 (some ⟨g, 0, none⟩) 4096 4096 C lC.symm hr
  simp only [pWC9_0.1, pWC9_0.2] at WC9_0
  clear pWC9_0
  have FL10 := fun (w0 : World) (D : Nat) (S : Nat → Prop) (b : Nat) (h : IsDk AnyB b w0 D S d10) => Flush_is w0 D h
  simp only [pFL10.1, pFL10.2] at FL10
  clear pFL10
  have WZ11_0 := fun (w0 : World) (D : Nat) (S : Nat → Prop) (b : Nat) (h : IsDk AnyB b w0 D S d11) (g : Nat) (hr : RdU w0 (some ⟨g, 0, none⟩) Z) => Write_is w0 D h q11 0 (some ⟨g, 0, none⟩) 4096 4096 Z lZ.symm hr
  simp only [pWZ11_0.1, pWZ11_0.2] at WZ11_0
  clear pWZ11_0
  have RD11_0 := fun (w0 : World) (D : Nat) (S : Nat → Prop) (b : Nat) (h : IsDk AnyB b w0 D S d11) => Read_is w0 D h 0
  simp only [pRD11_0.1, pRD11_0.2, List.length_nil] at RD11_0
  clear pRD11_0
  have RD11_2 := fun (w0 : World) (D : Nat) (S : Nat → Prop) (b : Nat) (h : IsDk AnyB b w0 D S d11) => Read_is w0 D h 2
  simp only [pRD11_2.1, pRD11_2.2, List.length_nil] at RD11_2
  clear pRD11_2
  have CR11 := fun (w0 : World) (D : Nat) (S : Nat → Prop) (b : Nat) (h : IsDk AnyB b w0 D S d11) => Crash_is w0 D h none 0 0 [] rfl (by decide) (RdV.nil _ _) (by rintro _ x off e; cases e) 0 0 (by decide)
  simp only [pCR11] at CR11
  clear pCR11
  have HS12_0_M := fun (w0 : World) (D : Nat) (S : Nat → Prop) (b : Nat) (h : IsDk AnyB b w0 D S d12) (g : Nat) (hr : RdB w0 (some ⟨g, 0, none⟩) M) => has_is w0 D h 0 (some ⟨g, 0, none⟩) 4096 4096 M lM.symm hr
  simp only [pHS12_0_M] at HS12_0_M
  clear pHS12_0_M
  have Fail12_0 := fun (w0 : World) (D : Nat) (S : Nat → Prop) (b : Nat) (h : IsDk AnyB b w0 D S d12) => (show Calls Try.prog 31 #[ptr D, .int .i64 0] w0 fun e w1 => e = .returned (.int .i64 0) ∧ IsDk AnyB b w1 D S (d12.fail 0) ∧ Kpt (fun b => b = D) w0 w1 from Fail_is w0 D h 0).mono (fun e w1 hh => (⟨hh.1, Turn.of hh.2.1 hh.2.2 h.inS⟩ : e = .returned (.int .i64 0) ∧ Turn AnyB b w0 D S w1 (d12.fail 0)))
  simp only [pFail12_0] at Fail12_0
  clear pFail12_0
  have FL13 := fun (w0 : World) (D : Nat) (S : Nat → Prop) (b : Nat) (h : IsDk AnyB b w0 D S d13) => Flush_is w0 D h
  simp only [pFL13.1, pFL13.2] at FL13
  clear pFL13
  have FL14 := fun (w0 : World) (D : Nat) (S : Nat → Prop) (b : Nat) (h : IsDk AnyB b w0 D S d14) => Flush_is w0 D h
  simp only [pFL14.1, pFL14.2] at FL14
  clear pFL14
  have Fail14_1 := fun (w0 : World) (D : Nat) (S : Nat → Prop) (b : Nat) (h : IsDk AnyB b w0 D S d14) => (show Calls Try.prog 31 #[ptr D, .int .i64 1] w0 fun e w1 => e = .returned (.int .i64 0) ∧ IsDk AnyB b w1 D S (d14.fail 1) ∧ Kpt (fun b => b = D) w0 w1 from Fail_is w0 D h 1).mono (fun e w1 hh => (⟨hh.1, Turn.of hh.2.1 hh.2.2 h.inS⟩ : e = .returned (.int .i64 0) ∧ Turn AnyB b w0 D S w1 (d14.fail 1)))
  simp only [pFail14_1] at Fail14_1
  clear pFail14_1
  have Arm15_1 := fun (w0 : World) (D : Nat) (S : Nat → Prop) (b : Nat) (h : IsDk AnyB b w0 D S d15) => (show Calls Try.prog 30 #[ptr D, .int .i64 1] w0 fun e w1 => e = .returned (.int .i64 0) ∧ IsDk AnyB b w1 D S (d15.arm 1) ∧ Kpt (fun b => b = D) w0 w1 from Arm_is w0 D h 1).mono (fun e w1 hh => (⟨hh.1, Turn.of hh.2.1 hh.2.2 h.inS⟩ : e = .returned (.int .i64 0) ∧ Turn AnyB b w0 D S w1 (d15.arm 1)))
  simp only [pArm15_1] at Arm15_1
  clear pArm15_1
  have FL16 := fun (w0 : World) (D : Nat) (S : Nat → Prop) (b : Nat) (h : IsDk AnyB b w0 D S d16) => Flush_is w0 D h
  simp only [pFL16.1, pFL16.2] at FL16
  clear pFL16
  have FL17 := fun (w0 : World) (D : Nat) (S : Nat → Prop) (b : Nat) (h : IsDk AnyB b w0 D S d17) => Flush_is w0 D h
  simp only [pFL17.1, pFL17.2] at FL17
  clear pFL17
  have Arm18_m := fun (w0 : World) (D : Nat) (S : Nat → Prop) (b : Nat) (h : IsDk AnyB b w0 D S d18) => (show Calls Try.prog 30 #[ptr D, .int .i64 (-1)] w0 fun e w1 => e = .returned (.int .i64 2) ∧ IsDk AnyB b w1 D S (d18.arm (-1)) ∧ Kpt (fun b => b = D) w0 w1 from Arm_is w0 D h (-1)).mono (fun e w1 hh => (⟨hh.1, Turn.of hh.2.1 hh.2.2 h.inS⟩ : e = .returned (.int .i64 2) ∧ Turn AnyB b w0 D S w1 (d18.arm (-1))))
  simp only [pArm18_m] at Arm18_m
  clear pArm18_m
  have Fail18_m := fun (w0 : World) (D : Nat) (S : Nat → Prop) (b : Nat) (h : IsDk AnyB b w0 D S d18) => (show Calls Try.prog 31 #[ptr D, .int .i64 (-1)] w0 fun e w1 => e = .returned (.int .i64 2) ∧ IsDk AnyB b w1 D S (d18.fail (-1)) ∧ Kpt (fun b => b = D) w0 w1 from Fail_is w0 D h (-1)).mono (fun e w1 hh => (⟨hh.1, Turn.of hh.2.1 hh.2.2 h.inS⟩ : e = .returned (.int .i64 2) ∧ Turn AnyB b w0 D S w1 (d18.fail (-1))))
  simp only [pFail18_m] at Fail18_m
  clear pFail18_m
  have SZX := fun (w0 : World) (D : Nat) (S : Nat → Prop) (b : Nat) (h : IsDk AnyB b w0 D S dX) => Size_is w0 D h
  simp only [nX] at SZX
  clear nX
  obtain ⟨dY, hY⟩ : ∃ d : Dk, d = mkDk [O, V] := ⟨_, rfl⟩
  have nY : dY.now.length = 2 := by rw [hY]; rfl
  have wY : dY.wn = [] := by rw [hY]; rfl
  have hsY : dY.hasB 1 V = true := by rw [hY]; simp [mkDk, Dk.hasB, Dk.rdE, Dk.rdB, Dk.wrong]
  have LD := fun (w0 : World) (g c : Nat) (hr : RdB w0 (some ⟨g, 0, none⟩) (O ++ V)) => (show Calls Try.prog 22 #[.slice (some ⟨g, 0, none⟩) 8192 c] w0 _ from Load_any w0 g 0 c (O ++ V) 2 (by decide) (by decide) (by rw [List.length_append, l1, l2]) hr)
  rw [chunks_two l1 l2, ← hY] at LD
  clear hY
  have SZY := fun (w0 : World) (D : Nat) (S : Nat → Prop) (b : Nat) (h : IsDk AnyB b w0 D S dY) => Size_is w0 D h
  have HSY := fun (w0 : World) (D : Nat) (S : Nat → Prop) (b : Nat) (h : IsDk AnyB b w0 D S dY) (g : Nat) (hr : RdB w0 (some ⟨g, 0, none⟩) V) => has_is w0 D h 1 (some ⟨g, 0, none⟩) 4096 4096 V l2.symm hr
  have PEY := fun (w0 : World) (D : Nat) (S : Nat → Prop) (b : Nat) (h : IsDk AnyB b w0 D S dY) => Pending_is w0 D h
  have IMY := fun (w0 : World) (D : Nat) (S : Nat → Prop) (b : Nat) (h : IsDk AnyB b w0 D S dY) => Image_is w0 D h
  simp only [nY] at SZY IMY
  simp only [hsY] at HSY
  simp only [wY, List.length_nil] at PEY
  clear nY hsY wY
  have LB1 := fun w0 g => Load_bad w0 (some ⟨g, 0, none⟩) 4095 4095 (by decide) (by decide)
  have LB2 := fun w0 => Load_bad w0 none 0 0 (by decide) (by decide)
  have LB3 := fun w0 g => Load_bad w0 (some ⟨g, 0, none⟩) 2101248 2101248 (by decide) (by decide)
  obtain ⟨MK1, hmk1, bmk1⟩ := mk_any 4095 4095 rfl (by decide)
  obtain ⟨MK2, hmk2, bmk2⟩ := mk_any 2101248 2101248 rfl (by decide)
  have L1 := hid l1; have L2 := hid l2; have BM1 := hid bmk1; have BM2 := hid bmk2
  clear lA lB lZ lC lM l1 l2 bmk1 bmk2 hdc q0 q1 q2 q3 q4 q5 q6 q7 q8 q9 q10 q11 q12 q13 q14 q15 q16 q17 q18
  unfold ptr at *
  go_enter Try.func7, Try.ntmps7
  go_wp2_with fail
  refine NW.mono ?_
  rintro e v1 ⟨D, S1, rfl, i1q, bb1⟩
  have i1 : IsDk AnyB w.heap.size v1 D S1 d0 := i1q.monoQ (fun _ _ => trivial)
  clear i1q NW
  go_wp2_with fail
  refine (FA _).mono ?_
  rintro e v2 ⟨g2, rfl, f2, b2⟩
  have i2 := i1.below b2
  have bb2 := bb1.trans (b2.mono bb1.size)
  clear i1 bb1 b2
  go_wp2_with fail
  refine (WA0_0 _ _ _ _ i2 _ f2.rdu).mono ?_
  rintro e v3 ⟨rfl, t3⟩
  obtain ⟨S3, i3, -, -, bb3⟩ := t3.open_ i2 bb2
  clear t3 i2 bb2 f2
  go_wp2_with fail
  refine (FB _).mono ?_
  rintro e v4 ⟨g4, rfl, f4, b4⟩
  have i4 := i3.below b4
  have bb4 := bb3.trans (b4.mono bb3.size)
  clear i3 bb3 b4
  go_wp2_with fail
  refine (WB1_0 _ _ _ _ i4 _ f4.rdu).mono ?_
  rintro e v5 ⟨rfl, t5⟩
  obtain ⟨S5, i5, -, -, bb5⟩ := t5.open_ i4 bb4
  clear t5 i4 bb4 f4
  go_wp2_with fail
  refine (FA _).mono ?_
  rintro e v6 ⟨g6, rfl, f6, b6⟩
  have i6 := i5.below b6
  have bb6 := bb5.trans (b6.mono bb5.size)
  clear i5 bb5 b6
  go_wp2_with fail
  refine (WA2_1 _ _ _ _ i6 _ f6.rdu).mono ?_
  rintro e v7 ⟨rfl, t7⟩
  obtain ⟨S7, i7, -, -, bb7⟩ := t7.open_ i6 bb6
  clear t7 i6 bb6 f6
  have H8 := hid (fun b (hb : S7 b) => (i7.blocks hb).2.1)
  obtain ⟨va8, hva⟩ : ∃ va, va = v7.alloc (.cells #[.bool false, .bool true, .bool true] 4) := ⟨_, rfl⟩
  have ba8 : Below v7.heap.size v7 va8 := by rw [hva]; exact (Below.refl _ _).alloc (Nat.le_refl _) _
  have hra8 : RdV va8 (some ⟨v7.heap.size, 0, none⟩) (Bools [false, true, true]) := by rw [hva]; exact RdV.new' v7 #[.bool false, .bool true, .bool true] _ rfl
  have HVA8 := hid hva
  clear hva
  have ia8 := i7.below ba8
  have bba8 := bb7.trans (ba8.mono bb7.size)
  clear i7 bb7 ba8
  go_wp2_with fail
  rw [← HVA8.out]
  refine (CR3 _ _ _ _ ia8 _ hra8 (fun hs => by have := H8.out _ hs; omega)).mono ?_
  rintro e v8 ⟨rfl, t8⟩
  obtain ⟨S8, i8, -, -, bb8⟩ := t8.open_ ia8 bba8
  clear t8 ia8 bba8 hra8 HVA8 H8
  go_wp2_with fail
  refine (FB _).mono ?_
  rintro e v9 ⟨g9, rfl, f9, b9⟩
  have i9 := i8.below b9
  have bb9 := bb8.trans (b9.mono bb8.size)
  clear i8 bb8 b9
  go_wp2_with fail
  refine (HS4_0_B _ _ _ _ i9 _ f9.rd).mono ?_
  rintro e v10 ⟨rfl, b10⟩
  have i10 := i9.below b10
  have bb10 := bb9.trans (b10.mono bb9.size)
  clear i9 bb9 b10 f9
  go_wp2_with fail
  refine (FA _).mono ?_
  rintro e v11 ⟨g11, rfl, f11, b11⟩
  have i11 := i10.below b11
  have bb11 := bb10.trans (b11.mono bb10.size)
  clear i10 bb10 b11
  go_wp2_with fail
  refine (HS4_1_A _ _ _ _ i11 _ f11.rd).mono ?_
  rintro e v12 ⟨rfl, b12⟩
  have i12 := i11.below b12
  have bb12 := bb11.trans (b12.mono bb11.size)
  clear i11 bb11 b12 f11
  go_wp2_with fail
  refine (WR4 _ _ _ _ i12).mono ?_
  rintro e vw ⟨rfl, rfl⟩
  go_wp2_with fail
  refine (FA _).mono ?_
  rintro e v13 ⟨g13, rfl, f13, b13⟩
  have i13 := i12.below b13
  have bb13 := bb12.trans (b13.mono bb12.size)
  clear i12 bb12 b13
  go_wp2_with fail
  refine (WA4_0 _ _ _ _ i13 _ f13.rdu).mono ?_
  rintro e v14 ⟨rfl, t14⟩
  obtain ⟨S14, i14, -, -, bb14⟩ := t14.open_ i13 bb13
  clear t14 i13 bb13 f13
  go_wp2_with fail
  refine (FL5 _ _ _ _ i14).mono ?_
  rintro e v15 ⟨rfl, t15⟩
  obtain ⟨S15, i15, -, -, bb15⟩ := t15.open_ i14 bb14
  clear t15 i14 bb14
  go_wp2_with fail
  refine (FB _).mono ?_
  rintro e v16 ⟨g16, rfl, f16, b16⟩
  have i16 := i15.below b16
  have bb16 := bb15.trans (b16.mono bb15.size)
  clear i15 bb15 b16
  go_wp2_with fail
  refine (WB6_0 _ _ _ _ i16 _ f16.rdu).mono ?_
  rintro e v17 ⟨rfl, t17⟩
  obtain ⟨S17, i17, -, -, bb17⟩ := t17.open_ i16 bb16
  clear t17 i16 bb16 f16
  have H18 := hid (fun b (hb : S17 b) => (i17.blocks hb).2.1)
  obtain ⟨va18, hva⟩ : ∃ va, va = v17.alloc (.cells #[.bool true] 4) := ⟨_, rfl⟩
  have ba18 : Below v17.heap.size v17 va18 := by rw [hva]; exact (Below.refl _ _).alloc (Nat.le_refl _) _
  have hra18 : RdV va18 (some ⟨v17.heap.size, 0, none⟩) (Bools [true]) := by rw [hva]; exact RdV.new' v17 #[.bool true] _ rfl
  have HVA18 := hid hva
  clear hva
  have ia18 := i17.below ba18
  have bba18 := bb17.trans (ba18.mono bb17.size)
  clear i17 bb17 ba18
  go_wp2_with fail
  rw [← HVA18.out]
  refine (CR7 _ _ _ _ ia18 _ hra18 (fun hs => by have := H18.out _ hs; omega)).mono ?_
  rintro e v18 ⟨rfl, t18⟩
  obtain ⟨S18, i18, -, -, bb18⟩ := t18.open_ ia18 bba18
  clear t18 ia18 bba18 hra18 HVA18 H18
  go_wp2_with fail
  refine (MX _).mono ?_
  rintro e v19 ⟨g19, rfl, f19, b19⟩
  have i19 := i18.below b19
  have bb19 := bb18.trans (b19.mono bb18.size)
  clear i18 bb18 b19
  go_wp2_with fail
  refine (HS8_0_M _ _ _ _ i19 _ f19.rd).mono ?_
  rintro e v20 ⟨rfl, b20⟩
  have i20 := i19.below b20
  have bb20 := bb19.trans (b20.mono bb19.size)
  clear i19 bb19 b20 f19
  go_wp2_with fail
  refine (WR8 _ _ _ _ i20).mono ?_
  rintro e vw ⟨rfl, rfl⟩
  go_wp2_with fail
  refine (CP _ _ _ _ i20).mono ?_
  rintro e v21 ⟨E, Sc, rfl, ic, b21⟩
  have i21 := i20.below b21
  have bb21 := bb20.trans (b21.mono bb20.size)
  clear i20 bb20 b21
  go_wp2_with fail
  refine (CW _ _ _ _ ic).mono ?_
  rintro e vw ⟨rfl, rfl⟩
  clear ic
  go_wp2_with fail
  refine (FZ _).mono ?_
  rintro e v22 ⟨g22, rfl, f22, b22⟩
  have i22 := i21.below b22
  have bb22 := bb21.trans (b22.mono bb21.size)
  clear i21 bb21 b22
  go_wp2_with fail
  refine (WZ8_2 _ _ _ _ i22 _ f22.rdu).mono ?_
  rintro e v23 ⟨rfl, t23⟩
  obtain ⟨S23, i23, -, -, bb23⟩ := t23.open_ i22 bb22
  clear t23 i22 bb22 f22
  go_wp2_with fail
  refine (FZ _).mono ?_
  rintro e v24 ⟨g24, rfl, f24, b24⟩
  have i24 := i23.below b24
  have bb24 := bb23.trans (b24.mono bb23.size)
  clear i23 bb23 b24
  go_wp2_with fail
  refine (WZ8_m _ _ _ _ i24 _ f24.rdu).mono ?_
  rintro e v25 ⟨rfl, t25⟩
  obtain ⟨S25, i25, -, -, bb25⟩ := t25.open_ i24 bb24
  clear t25 i24 bb24 f24
  go_wp2_with fail
  refine (WN8_0 _ _ _ _ i25).mono ?_
  rintro e v26 ⟨rfl, t26⟩
  obtain ⟨S26, i26, -, -, bb26⟩ := t26.open_ i25 bb25
  clear t26 i25 bb25
  go_wp2_with fail
  refine (WN8_2 _ _ _ _ i26).mono ?_
  rintro e v27 ⟨rfl, t27⟩
  obtain ⟨S27, i27, -, -, bb27⟩ := t27.open_ i26 bb26
  clear t27 i26 bb26
  go_wp2_with fail
  refine (Arm8_1 _ _ _ _ i27).mono ?_
  rintro e v28 ⟨rfl, t28⟩
  obtain ⟨S28, i28, -, -, bb28⟩ := t28.open_ i27 bb27
  clear t28 i27 bb27
  go_wp2_with fail
  refine (FC _).mono ?_
  rintro e v29 ⟨g29, rfl, f29, b29⟩
  have i29 := i28.below b29
  have bb29 := bb28.trans (b29.mono bb28.size)
  clear i28 bb28 b29
  go_wp2_with fail
  refine (WC9_0 _ _ _ _ i29 _ f29.rdu).mono ?_
  rintro e v30 ⟨rfl, t30⟩
  obtain ⟨S30, i30, -, -, bb30⟩ := t30.open_ i29 bb29
  clear t30 i29 bb29 f29
  go_wp2_with fail
  refine (FL10 _ _ _ _ i30).mono ?_
  rintro e v31 ⟨rfl, t31⟩
  obtain ⟨S31, i31, -, -, bb31⟩ := t31.open_ i30 bb30
  clear t31 i30 bb30
  go_wp2_with fail
  refine (FZ _).mono ?_
  rintro e v32 ⟨g32, rfl, f32, b32⟩
  have i32 := i31.below b32
  have bb32 := bb31.trans (b32.mono bb31.size)
  clear i31 bb31 b32
  go_wp2_with fail
  refine (WZ11_0 _ _ _ _ i32 _ f32.rdu).mono ?_
  rintro e v33 ⟨rfl, t33⟩
  obtain ⟨S33, i33, -, -, bb33⟩ := t33.open_ i32 bb32
  clear t33 i32 bb32 f32
  go_wp2_with fail
  refine (RD11_0 _ _ _ _ i33).mono ?_
  rintro e v34 ⟨a34, c34, rfl, -, b34⟩
  have i34 := i33.below b34
  have bb34 := bb33.trans (b34.mono bb33.size)
  clear i33 bb33 b34
  go_wp2_with fail
  refine (RD11_2 _ _ _ _ i34).mono ?_
  rintro e v35 ⟨a35, c35, rfl, -, b35⟩
  have i35 := i34.below b35
  have bb35 := bb34.trans (b35.mono bb34.size)
  clear i34 bb34 b35
  go_wp2_with fail
  refine (CR11 _ _ _ _ i35).mono ?_
  rintro e v36 ⟨rfl, t36⟩
  obtain ⟨S36, i36, -, -, bb36⟩ := t36.open_ i35 bb35
  clear t36 i35 bb35
  go_wp2_with fail
  refine (MX _).mono ?_
  rintro e v37 ⟨g37, rfl, f37, b37⟩
  have i37 := i36.below b37
  have bb37 := bb36.trans (b37.mono bb36.size)
  clear i36 bb36 b37
  go_wp2_with fail
  refine (HS12_0_M _ _ _ _ i37 _ f37.rd).mono ?_
  rintro e v38 ⟨rfl, b38⟩
  have i38 := i37.below b38
  have bb38 := bb37.trans (b38.mono bb37.size)
  clear i37 bb37 b38 f37
  go_wp2_with fail
  refine (Fail12_0 _ _ _ _ i38).mono ?_
  rintro e v39 ⟨rfl, t39⟩
  obtain ⟨S39, i39, -, -, bb39⟩ := t39.open_ i38 bb38
  clear t39 i38 bb38
  go_wp2_with fail
  refine (FL13 _ _ _ _ i39).mono ?_
  rintro e v40 ⟨rfl, t40⟩
  obtain ⟨S40, i40, -, -, bb40⟩ := t40.open_ i39 bb39
  clear t40 i39 bb39
  go_wp2_with fail
  refine (FL14 _ _ _ _ i40).mono ?_
  rintro e v41 ⟨rfl, t41⟩
  obtain ⟨S41, i41, -, -, bb41⟩ := t41.open_ i40 bb40
  clear t41 i40 bb40
  go_wp2_with fail
  refine (Fail14_1 _ _ _ _ i41).mono ?_
  rintro e v42 ⟨rfl, t42⟩
  obtain ⟨S42, i42, -, -, bb42⟩ := t42.open_ i41 bb41
  clear t42 i41 bb41
  go_wp2_with fail
  refine (Arm15_1 _ _ _ _ i42).mono ?_
  rintro e v43 ⟨rfl, t43⟩
  obtain ⟨S43, i43, -, -, bb43⟩ := t43.open_ i42 bb42
  clear t43 i42 bb42
  go_wp2_with fail
  refine (FL16 _ _ _ _ i43).mono ?_
  rintro e v44 ⟨rfl, t44⟩
  obtain ⟨S44, i44, -, -, bb44⟩ := t44.open_ i43 bb43
  clear t44 i43 bb43
  go_wp2_with fail
  refine (FL17 _ _ _ _ i44).mono ?_
  rintro e v45 ⟨rfl, t45⟩
  obtain ⟨S45, i45, -, -, bb45⟩ := t45.open_ i44 bb44
  clear t45 i44 bb44
  go_wp2_with fail
  refine (Arm18_m _ _ _ _ i45).mono ?_
  rintro e v46 ⟨rfl, t46⟩
  obtain ⟨S46, i46, -, -, bb46⟩ := t46.open_ i45 bb45
  clear t46 i45 bb45
  go_wp2_with fail
  refine (Fail18_m _ _ _ _ i46).mono ?_
  rintro e v47 ⟨rfl, t47⟩
  obtain ⟨S47, i47, -, -, bb47⟩ := t47.open_ i46 bb46
  clear t47 i46 bb46
  clear i47
  go_wp2_with fail
  refine (NB0 _).mono ?_
  rintro e vy ⟨rfl, rfl⟩
  go_wp2_with fail
  refine (NB5 _).mono ?_
  rintro e vz ⟨rfl, rfl⟩
  go_wp2_with fail
  refine (NX _).mono ?_
  rintro e x1 ⟨X, SX, rfl, ixq, bx⟩
  have ix1 := (ixq.monoQ (Q' := AnyB) (fun _ _ => trivial))
  have bx1 := bb47.trans (bx.mono bb47.size)
  clear ixq bx bb47
  go_wp2_with fail
  refine (LB1 _ _).mono ?_
  rintro e x2 ⟨rfl, rfl⟩
  have bm1 := BM1.out x1
  have ix2 := ix1.below bm1
  have bx2 := bx1.trans (bm1.mono bx1.size)
  clear ix1 bx1 bm1
  generalize MK1 x1 = x2 at *
  go_wp2_with fail
  refine (LB2 _).mono ?_
  rintro e x3 ⟨rfl, rfl⟩
  go_wp2_with fail
  refine (LB3 _ _).mono ?_
  rintro e x4 ⟨rfl, rfl⟩
  have bm2 := BM2.out x3
  have ix4 := ix2.below bm2
  have bx4 := bx2.trans (bm2.mono bx2.size)
  clear ix2 bx2 bm2
  generalize MK2 x3 = x4 at *
  go_wp2_with fail
  refine (F1 _).mono ?_
  rintro e x5 ⟨g1, rfl, o1, b5⟩
  go_wp2_with fail
  refine (F2 _).mono ?_
  rintro e x6 ⟨g2, rfl, o2, b6⟩
  have o1' := o1.below b6
  have b46 := b5.trans (b6.mono b5.size)
  have h46 := b46.size
  clear o1 b5 b6
  go_wp2_with (at_builtin; refine app_bytes rfl (.tmp 228) (.tmp 229) rfl x4.heap.size (some ⟨g1, 0, none⟩) 4096 4096 O L1.out.symm rfl o1' (some ⟨g2, 0, none⟩) 4096 4096 V rfl L2.out.symm o2.rd 8192 (by rw [L1.out, L2.out]) (by rw [L1.out, L2.out]; decide) x4 b46 h46 ?_; intro A1 c1 x7 o7 b7 gr7 _)
  have gne : O ++ V ≠ [] := by intro e; have h1 := congrArg List.length e; rw [List.length_append, L1.out, L2.out] at h1; simp at h1
  obtain ⟨g7, rfl, -, -⟩ := own_adr o7 gne
  have ix7 := ix4.below b7
  have bx7 := bx4.trans (b7.mono bx4.size)
  clear gr7 ix4 o1' o2 gne b46 b7 bx4
  go_wp2_with fail
  refine (LD _ _ _ o7.rd).mono ?_
  rintro e x8 ⟨Y, SY, rfl, iyq, b8⟩
  have iy8 := (iyq.monoQ (Q' := AnyB) (fun _ _ => trivial))
  have ix8 := ix7.below b8
  have bx8 := bx7.trans (b8.mono bx7.size)
  clear iyq b8 ix7 bx7 o7
  go_wp2_with fail
  refine (SZX _ _ _ _ ix8).mono ?_
  rintro e vq ⟨rfl, rfl⟩
  clear ix8
  go_wp2_with fail
  refine (SZY _ _ _ _ iy8).mono ?_
  rintro e vq ⟨rfl, rfl⟩
  go_wp2_with fail
  refine (F2 _).mono ?_
  rintro e x9 ⟨g9, rfl, o9, b9⟩
  have iy9 := iy8.below b9
  have bx9 := bx8.trans (b9.mono bx8.size)
  clear iy8 bx8 b9
  go_wp2_with fail
  refine (HSY _ _ _ _ iy9 _ o9.rd).mono ?_
  rintro e xa ⟨rfl, ba⟩
  have iya := iy9.below ba
  have bxa := bx9.trans (ba.mono bx9.size)
  clear iy9 bx9 ba o9
  go_wp2_with fail
  refine (PEY _ _ _ _ iya).mono ?_
  rintro e xb ⟨Ab, cb, rfl, -, bb⟩
  have iyb := iya.below bb
  have bxb := bxa.trans (bb.mono bxa.size)
  clear iya bxa bb
  go_wp2_with fail
  refine (IMY _ _ _ _ iyb).mono ?_
  rintro e xc ⟨Ac, cc, rfl, -, bc⟩
  have bxc := bxb.trans (bc.mono bxb.size)
  clear iyb bxb bc
  go_wp2_with fail
  refine (AW _).mono ?_
  rintro e xd ⟨rfl, bd⟩
  go_wp2
  go_ret
  exact ⟨rfl, bxc.trans (bd.mono bxc.size)⟩
end Go.Proofs.Ytddejjmebokgiaa
