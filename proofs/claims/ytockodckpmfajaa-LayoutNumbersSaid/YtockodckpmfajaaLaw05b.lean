/- The walk of LayoutNumbers. -/
import Derived.Test.YtockodckpmfajaaLaw05
namespace Go.Proofs.Ytockodckpmfajaa
open Go.RowKit
set_option maxHeartbeats 1600000
set_option linter.unusedVariables false
set_option linter.unusedSimpArgs false

theorem Bit_zero (w : World) : Calls Try.prog 8 #[.agg #[.int .i64 0, .int .i64 0, .int .i64 0, .int .i64 0, .int .i64 0, .int .i64 0, .int .i64 0], .int .i64 0] w fun e w' => e = .returned (.tuple #[.int .i64 0, .int .u8 0, .int .i64 2]) ∧ Below w.heap.size w w' := by
  have := Bit_any w ⟨0, 0, 0, 0, 0, 0, 0⟩ 0 (by decide)
  rw [show bitB ⟨0, 0, 0, 0, 0, 0, 0⟩ 0 = 0 by decide, show bitV ⟨0, 0, 0, 0, 0, 0, 0⟩ 0 = 0 by decide, show errB ⟨0, 0, 0, 0, 0, 0, 0⟩ 0 = 2 by decide] at this
  exact this
theorem InodeOff (w : World) : Calls Try.prog 7 #[.agg #[.int .i64 64, .int .i64 2, .int .i64 16, .int .i64 18, .int .i64 19, .int .i64 4, .int .i64 24], .int .i64 1] w fun e w' => e = .returned (.tuple #[.int .i64 0, .int .i64 0, .int .i64 2]) ∧ Below w.heap.size w w' := by
  have := Inode_any w ⟨64, 2, 16, 18, 19, 4, 24⟩ 1 (by decide)
  rw [show inoB ⟨64, 2, 16, 18, 19, 4, 24⟩ 1 = 0 by decide, show inoA ⟨64, 2, 16, 18, 19, 4, 24⟩ 1 = 0 by decide, show errI ⟨64, 2, 16, 18, 19, 4, 24⟩ 1 = 2 by decide] at this
  exact this
theorem free_of_row' {w : World} {g : Nat} {cs : Array Value} {t : TypeId} (h : w.heap[g]? = some (.cells cs t (0, 0))) (k : Nat) : w.frozen? ⟨g, k, none⟩ = false := by
  unfold World.frozen?
  simp [h]
theorem kept_set {w : World} {g k : Nat} {o x : Obj} {j : Nat} {v : Value} (h : w.heap[g]? = some o) (h2 : w.heap[k]? = some x) (hne : g ≠ k) : (w.setCell ⟨k, j, none⟩ v).heap[g]? = some o := by
  rw [heap_setCell_other _ _ _ _ hne, h]
theorem set_row {w : World} {g : Nat} {cs : Array Value} {t : TypeId} (h : w.heap[g]? = some (.cells cs t (0, 0))) (j : Nat) (v : Value) : (w.setCell ⟨g, j, none⟩ v).heap[g]? = some (.cells (cs.setIfInBounds j v) t (0, 0)) := heap_setCell_same w g j cs t v h
set_option maxRecDepth 100000 in
theorem LayoutNumbers_any (w : World) : Calls Try.prog 3 #[] w fun e w' => e = .returned (.bool true) ∧ Below w.heap.size w w' := by
  go_enter Try.func3, Try.ntmps3
  go_wp2_with fail
  refine (Of512 _).mono ?_
  rintro e w1 ⟨rfl, b1⟩
  have bw1 := (Below.refl w.heap.size w).trans (b1.mono (Below.refl w.heap.size w).size)
  clear b1
  go_wp2_with fail
  refine (Of64 _).mono ?_
  rintro e w2 ⟨rfl, b2⟩
  have bw2 := (bw1.alloc bw1.size _).trans (b2.mono (by have := bw1.size; simp; omega))
  have gl := hid (keptN b2)
  clear b2
  have l12 := heap_lt gl.out
  go_wp2_with fail
  refine (Of_no _ 63 (by decide)).mono ?_
  rintro e w3 ⟨rfl, b3⟩
  have bw3 := (bw2.alloc bw2.size _).trans (b3.mono (by have := bw2.size; simp; omega))
  replace gl := hid (kept2 b3 gl.out)
  have gs := hid (keptN b3)
  clear b3
  go_wp2_with fail
  refine (Of_no _ 513 (by decide)).mono ?_
  rintro e w4 ⟨rfl, b4⟩
  have bw4 := (bw3.alloc bw3.size _).trans (b4.mono (by have := bw3.size; simp; omega))
  replace gl := hid (kept2 b4 gl.out)
  replace gs := hid (kept2 b4 gs.out)
  clear b4
  obtain ⟨c0, c1, c2, c3, c4, c5, c6⟩ := seven_alloc gs.out
  go_wp2_with fail
  refine (Inode64 _ 1 19 0 0 (by decide) (by decide)).mono ?_
  rintro e w5 ⟨rfl, b5⟩
  have bw5 := (bw4.alloc bw4.size _).trans (b5.mono (by have := bw4.size; simp; omega))
  replace gl := hid (kept2 b5 gl.out)
  replace gs := hid (kept2 b5 gs.out)
  clear b5
  clear c0 c1 c2 c3 c4 c5 c6
  obtain ⟨c0, c1, c2, c3, c4, c5, c6⟩ := seven gs.out
  go_wp2_with fail
  refine (Inode64 _ 65 20 0 0 (by decide) (by decide)).mono ?_
  rintro e w6 ⟨rfl, b6⟩
  have bw6 := bw5.trans (b6.mono bw5.size)
  replace gl := hid (kept1 b6 gl.out)
  replace gs := hid (kept1 b6 gs.out)
  clear b6
  clear c0 c1 c2 c3 c4 c5 c6
  obtain ⟨c0, c1, c2, c3, c4, c5, c6⟩ := seven gs.out
  go_wp2_with fail
  refine (Inode64 _ 257 0 0 2 (by decide) (by decide)).mono ?_
  rintro e w7 ⟨rfl, b7⟩
  have bw7 := bw6.trans (b7.mono bw6.size)
  replace gl := hid (kept1 b7 gl.out)
  replace gs := hid (kept1 b7 gs.out)
  clear b7
  clear c0 c1 c2 c3 c4 c5 c6
  obtain ⟨c0, c1, c2, c3, c4, c5, c6⟩ := seven gs.out
  go_wp2_with fail
  refine (Bit64 _ 64 0 0 70 (by decide) (by decide)).mono ?_
  rintro e w8 ⟨rfl, b8⟩
  have bw8 := bw7.trans (b8.mono bw7.size)
  replace gl := hid (kept1 b8 gl.out)
  replace gs := hid (kept1 b8 gs.out)
  clear b8
  clear c0 c1 c2 c3 c4 c5 c6
  obtain ⟨c0, c1, c2, c3, c4, c5, c6⟩ := seven gs.out
  go_wp2_with fail
  refine (Bit_zero _).mono ?_
  rintro e w9 ⟨rfl, b9⟩
  have bw9 := bw8.trans (b9.mono bw8.size)
  replace gl := hid (kept1 b9 gl.out)
  replace gs := hid (kept1 b9 gs.out)
  clear b9
  clear c0 c1 c2 c3 c4 c5 c6
  obtain ⟨c0, c1, c2, c3, c4, c5, c6⟩ := seven gs.out
  go_wp2_with fail
  refine (Inode64 _ 0 0 0 2 (by decide) (by decide)).mono ?_
  rintro e w10 ⟨rfl, b10⟩
  have bw10 := bw9.trans (b10.mono bw9.size)
  replace gl := hid (kept1 b10 gl.out)
  replace gs := hid (kept1 b10 gs.out)
  clear b10
  clear c0 c1 c2 c3 c4 c5 c6
  obtain ⟨c0, c1, c2, c3, c4, c5, c6⟩ := seven gs.out
  have f6 := free_of_row' gs.out 6
  have l2 := heap_lt gs.out
  replace gl := hid (kept_set (j := 6) (v := .int .i64 24) gl.out gs.out (Nat.ne_of_lt l12))
  go_wp2_with fail
  refine (InodeOff _).mono ?_
  rintro e w11 ⟨rfl, b11⟩
  replace gl := hid (kept1 b11 gl.out)
  have bw11 := (bw10.setCell (by have := bw10.size; have := bw2.size; omega) _).trans (b11.mono (by have := bw10.size; simp; omega))
  clear b11
  clear c0 c1 c2 c3 c4 c5 c6 f6
  obtain ⟨c0, c1, c2, c3, c4, c5, c6⟩ := seven gl.out
  go_wp2_with fail
  refine (awake05_any _).mono ?_
  rintro e w12 ⟨rfl, b12⟩
  have bw12 := bw11.trans (b12.mono bw11.size)
  replace gl := hid (kept1 b12 gl.out)
  clear b12
  clear c0 c1 c2 c3 c4 c5 c6
  go_wp2
  go_ret
  exact ⟨rfl, bw12⟩
end Go.Proofs.Ytockodckpmfajaa
