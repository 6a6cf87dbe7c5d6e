/- The walks of the statements of the layer layout. -/
import Derived.Test.YtockodckpmfajaaLay2
namespace Go.Proofs.Ytockodckpmfajaa
open Go.RowKit
set_option maxHeartbeats 1600000
set_option linter.unusedVariables false
set_option linter.unusedSimpArgs false

theorem lay_of (ns : List Int) (h : ns.length = 7) {p : Int → Prop} (hb : ∀ n ∈ ns, p n) : ∃ l : Lay, Value.agg (ns.map (Value.int .i64)).toArray = l.val ∧ True := by
  match ns, h with
  | [a, b, c, d, e, f, g], _ => exact ⟨⟨a, b, c, d, e, f, g⟩, rfl, trivial⟩
def l64 : Lay := ⟨64, 2, 16, 18, 19, 4, 23⟩
def l512 : Lay := ⟨512, 2, 64, 66, 67, 32, 99⟩
theorem Of64 (w : World) : Calls Try.prog 6 #[.int .i64 64] w fun e w' => e = .returned (.tuple #[.agg #[.int .i64 64, .int .i64 2, .int .i64 16, .int .i64 18, .int .i64 19, .int .i64 4, .int .i64 23], .int .i64 0]) ∧ Below w.heap.size w w' := by
  have := Of_any w 64
  rw [show ofL 64 = l64 by decide, show errN 64 = 0 by decide] at this
  exact this
theorem Of512 (w : World) : Calls Try.prog 6 #[.int .i64 512] w fun e w' => e = .returned (.tuple #[.agg #[.int .i64 512, .int .i64 2, .int .i64 64, .int .i64 66, .int .i64 67, .int .i64 32, .int .i64 99], .int .i64 0]) ∧ Below w.heap.size w w' := by
  have := Of_any w 512
  rw [show ofL 512 = l512 by decide, show errN 512 = 0 by decide] at this
  exact this
theorem Of_no (w : World) (n : Int) (h : okN n = false) : Calls Try.prog 6 #[.int .i64 n] w fun e w' => e = .returned (.tuple #[.agg #[.int .i64 0, .int .i64 0, .int .i64 0, .int .i64 0, .int .i64 0, .int .i64 0, .int .i64 0], .int .i64 2]) ∧ Below w.heap.size w w' := by
  have := Of_any w n
  rw [show ofL n = ⟨0, 0, 0, 0, 0, 0, 0⟩ by simp [ofL, h], show errN n = 2 by simp [errN, h]] at this
  exact this
theorem Inode64 (w : World) (n a b e0 : Int) (hn : -9223372036854775808 ≤ n ∧ n ≤ 9223372036854775807) (h : inoB l64 n = a ∧ inoA l64 n = b ∧ errI l64 n = e0) : Calls Try.prog 7 #[.agg #[.int .i64 64, .int .i64 2, .int .i64 16, .int .i64 18, .int .i64 19, .int .i64 4, .int .i64 23], .int .i64 n] w fun e w' => e = .returned (.tuple #[.int .i64 a, .int .i64 b, .int .i64 e0]) ∧ Below w.heap.size w w' := by
  have := Inode_any w l64 n hn
  rw [h.1, h.2.1, h.2.2] at this
  exact this
theorem Bit64 (w : World) (n a : Int) (b : Nat) (e0 : Int) (hn : -9223372036854775808 ≤ n ∧ n ≤ 9223372036854775807) (h : bitB l64 n = a ∧ bitV l64 n = b ∧ errB l64 n = e0) : Calls Try.prog 8 #[.agg #[.int .i64 64, .int .i64 2, .int .i64 16, .int .i64 18, .int .i64 19, .int .i64 4, .int .i64 23], .int .i64 n] w fun e w' => e = .returned (.tuple #[.int .i64 a, .int .u8 (b : Int), .int .i64 e0]) ∧ Below w.heap.size w w' := by
  have := Bit_any w l64 n hn
  rw [h.1, h.2.1, h.2.2] at this
  exact this
theorem seven {w : World} {g : Nat} {t : TypeId} {x0 x1 x2 x3 x4 x5 x6 : Value} (h : w.heap[g]? = some (.cells #[x0, x1, x2, x3, x4, x5, x6] t (0, 0))) :
    w.cell? ⟨g, 0, none⟩ = some x0 ∧ w.cell? ⟨g, 1, none⟩ = some x1 ∧ w.cell? ⟨g, 2, none⟩ = some x2 ∧ w.cell? ⟨g, 3, none⟩ = some x3 ∧ w.cell? ⟨g, 4, none⟩ = some x4 ∧ w.cell? ⟨g, 5, none⟩ = some x5 ∧ w.cell? ⟨g, 6, none⟩ = some x6 := by
  refine ⟨?_, ?_, ?_, ?_, ?_, ?_, ?_⟩ <;> (rw [cell_of_row _ _ _ _ _ _ h]; rfl)
theorem heap_lt {w : World} {g : Nat} {o : Obj} (h : w.heap[g]? = some o) : g < w.heap.size := by
  rcases Nat.lt_or_ge g w.heap.size with h' | h'
  · exact h'
  · rw [Array.getElem?_eq_none h'] at h; cases h
theorem seven_alloc {w : World} {g : Nat} {t : TypeId} {x0 x1 x2 x3 x4 x5 x6 : Value} (h : w.heap[g]? = some (.cells #[x0, x1, x2, x3, x4, x5, x6] t (0, 0))) :
    (∀ o, (w.alloc o).cell? ⟨g, 0, none⟩ = some x0) ∧ (∀ o, (w.alloc o).cell? ⟨g, 1, none⟩ = some x1) ∧ (∀ o, (w.alloc o).cell? ⟨g, 2, none⟩ = some x2) ∧ (∀ o, (w.alloc o).cell? ⟨g, 3, none⟩ = some x3) ∧ (∀ o, (w.alloc o).cell? ⟨g, 4, none⟩ = some x4) ∧ (∀ o, (w.alloc o).cell? ⟨g, 5, none⟩ = some x5) ∧ (∀ o, (w.alloc o).cell? ⟨g, 6, none⟩ = some x6) := by
  refine ⟨?_, ?_, ?_, ?_, ?_, ?_, ?_⟩ <;> (intro o; rw [cell_of_row _ _ _ _ _ _ ((heap_alloc_old w o (heap_lt h)).trans h)]; rfl)
theorem keptN {w w1 : World} {o : Obj} (b : Below (w.alloc o).heap.size (w.alloc o) w1) : w1.heap[w.heap.size]? = some o := (b.block w.heap.size (by simp)).trans (heap_alloc_new w _)
theorem kept1 {w w1 : World} {g : Nat} {r : Obj} (b : Below w.heap.size w w1) (h : w.heap[g]? = some r) : w1.heap[g]? = some r := (b.block g (heap_lt h)).trans h
theorem kept2 {w w1 : World} {o r : Obj} {g : Nat} (b : Below (w.alloc o).heap.size (w.alloc o) w1) (h : w.heap[g]? = some r) : w1.heap[g]? = some r := kept1 b ((heap_alloc_old w o (heap_lt h)).trans h)
set_option maxRecDepth 100000 in
theorem awake05_any (w : World) : Calls Try.prog 9 #[] w fun e w' => e = .returned (.bool true) ∧ Below w.heap.size w w' := by
  go_enter Try.func9, Try.ntmps9
  go_wp2_with fail
  refine (Of64 _).mono ?_
  rintro e w1 ⟨rfl, b1⟩
  go_wp2_with fail
  refine (Inode64 _ 256 22 4032 0 (by decide) (by decide)).mono ?_
  rintro e w2 ⟨rfl, b2⟩
  have lt1 : w1.heap.size < w2.heap.size := by have := b2.size; simp at this; omega
  have g2 := (b2.block w1.heap.size (by simp)).trans (heap_alloc_new w1 _)
  have bw2 := (b1.alloc b1.size _).trans (b2.mono (by have := b1.size; simp; omega))
  obtain ⟨c0, c1, c2, c3, c4, c5, c6⟩ := seven g2
  have g2 := hid g2
  clear b2
  go_wp2_with fail
  refine (Bit64 _ 23 2 128 0 (by decide) (by decide)).mono ?_
  rintro e w3 ⟨rfl, b3⟩
  have g3 := (b3.block _ lt1).trans g2.out
  have bw3 := bw2.trans (b3.mono bw2.size)
  clear c0 c1 c2 c3 c4 c5 c6
  obtain ⟨c0, c1, c2, c3, c4, c5, c6⟩ := seven g3
  clear g3 b3
  go_wp2
  go_ret
  exact ⟨rfl, bw3⟩
set_option maxRecDepth 100000 in
theorem LayoutTells_any (w : World) (n : Int) (l : Lay) (m : Int) (hn : -9223372036854775808 ≤ n ∧ n ≤ 9223372036854775807) (hm : -9223372036854775808 ≤ m ∧ m ≤ 9223372036854775807) :
    Calls Try.prog 4 #[.int .i64 n, l.val, .int .i64 m] w fun e w' => e = .returned (.bool true) ∧ Below w.heap.size w w' := by
  have OF := fun w => Of_any w n
  have RF := fun w => refOf_any w n
  have IN := fun w => Inode_any w l m hm
  have RI := fun w => refInode_any w l m hm
  have BI := fun w => Bit_any w l m hm
  have RB := fun w => refBit_any w l m hm
  obtain ⟨o, ho⟩ : ∃ o, o = ofL n := ⟨_, rfl⟩
  obtain ⟨e1, he1⟩ : ∃ e, e = errN n := ⟨_, rfl⟩
  obtain ⟨x1, hx1⟩ : ∃ e, e = inoB l m := ⟨_, rfl⟩
  obtain ⟨x2, hx2⟩ : ∃ e, e = inoA l m := ⟨_, rfl⟩
  obtain ⟨x3, hx3⟩ : ∃ e, e = errI l m := ⟨_, rfl⟩
  obtain ⟨y1, hy1⟩ : ∃ e, e = bitB l m := ⟨_, rfl⟩
  obtain ⟨y2, hy2⟩ : ∃ e, e = bitV l m := ⟨_, rfl⟩
  obtain ⟨y3, hy3⟩ : ∃ e, e = errB l m := ⟨_, rfl⟩
  rw [← ho, ← he1] at OF RF
  rw [← hx1, ← hx2, ← hx3] at IN RI
  rw [← hy1, ← hy2, ← hy3] at BI RB
  clear ho he1 hx1 hx2 hx3 hy1 hy2 hy3
  obtain ⟨o1, o2, o3, o4, o5, o6, o7⟩ := o
  obtain ⟨l1, l2, l3, l4, l5, l6, l7⟩ := l
  simp only [Lay.val] at *
  go_enter Try.func4, Try.ntmps4
  go_wp2_with fail
  refine (OF _).mono ?_
  rintro e w1 ⟨rfl, b1⟩
  have bw1 := ((Below.refl _ w).alloc (Nat.le_refl _) _).trans (b1.mono (by simp))
  have gl := hid (keptN b1)
  clear b1
  go_wp2_with fail
  refine (RF _).mono ?_
  rintro e w2 ⟨rfl, b2⟩
  have bw2 := (bw1.alloc bw1.size _).trans (b2.mono (by have := bw1.size; simp; omega))
  have gl := hid (kept2 b2 gl.out)
  have gx := hid (keptN b2)
  obtain ⟨c0, c1, c2, c3, c4, c5, c6⟩ := seven_alloc gl.out
  clear b2
  go_wp2_with fail
  refine (IN _).mono ?_
  rintro e w3 ⟨rfl, b3⟩
  have bw3 := (bw2.alloc bw2.size _).trans (b3.mono (by have := bw2.size; simp; omega))
  have gl := hid (kept2 b3 gl.out)
  have gx := hid (kept2 b3 gx.out)
  have gy := hid (keptN b3)
  clear c0 c1 c2 c3 c4 c5 c6
  obtain ⟨c0, c1, c2, c3, c4, c5, c6⟩ := seven gl.out
  clear b3
  go_wp2_with fail
  refine (RI _).mono ?_
  rintro e w4 ⟨rfl, b4⟩
  have bw4 := bw3.trans (b4.mono bw3.size)
  have gl := hid (kept1 b4 gl.out)
  have gx := hid (kept1 b4 gx.out)
  have gy := hid (kept1 b4 gy.out)
  clear c0 c1 c2 c3 c4 c5 c6
  obtain ⟨c0, c1, c2, c3, c4, c5, c6⟩ := seven gl.out
  clear b4
  go_wp2_with fail
  refine (BI _).mono ?_
  rintro e w5 ⟨rfl, b5⟩
  have bw5 := bw4.trans (b5.mono bw4.size)
  have gl := hid (kept1 b5 gl.out)
  have gx := hid (kept1 b5 gx.out)
  have gy := hid (kept1 b5 gy.out)
  clear c0 c1 c2 c3 c4 c5 c6
  obtain ⟨c0, c1, c2, c3, c4, c5, c6⟩ := seven gl.out
  clear b5
  go_wp2_with fail
  refine (RB _).mono ?_
  rintro e w6 ⟨rfl, b6⟩
  have bw6 := bw5.trans (b6.mono bw5.size)
  have gx := hid (kept1 b6 gx.out)
  have gy := hid (kept1 b6 gy.out)
  clear c0 c1 c2 c3 c4 c5 c6
  obtain ⟨c0, c1, c2, c3, c4, c5, c6⟩ := seven gx.out
  obtain ⟨d0, d1, d2, d3, d4, d5, d6⟩ := seven gy.out
  clear b6
  go_wp2_with fail
  refine (awake05_any _).mono ?_
  rintro e w7 ⟨rfl, b7⟩
  have bw7 := bw6.trans (b7.mono bw6.size)
  go_wp2
  go_ret
  exact ⟨rfl, bw7⟩
end Go.Proofs.Ytockodckpmfajaa
