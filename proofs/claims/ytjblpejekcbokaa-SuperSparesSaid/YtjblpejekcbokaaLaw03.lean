/- The examples of the chapter super. -/
import Derived.Test.YtjblpejekcbokaaBack3
import Derived.Test.YtjblpejekcbokaaInode
namespace Go.Proofs.Ytjblpejekcbokaa
open Go.RowKit
set_option maxHeartbeats 3200000
set_option linter.unusedVariables false
set_option linter.unusedSimpArgs false

def s0 : Sup := ⟨64, 1, 1, 0⟩
def n0 : Ind := ⟨1, 1, 5, 0, [⟨0, 30, 1⟩]⟩
theorem PutSuper_s0 (w : World) : Calls Try.prog 12 #[.agg #[.int .i64 64, .int .i64 1, .int .i64 1, .int .i64 0]] w fun e w' => ∃ A c', e = .returned (.tuple #[.slice A 4096 c', .int .i64 0]) ∧ OwnB w.heap.size w' A c' (supB s0) ∧ Below w.heap.size w w' := by
  have := PutSuper_any w s0
  rw [show putS s0 = supB s0 from if_pos (by decide), show errS s0 = 0 from if_pos (by decide), supB_length] at this
  exact this
theorem GetSuper_s0 (w : World) (a : Option Addr) (c : Nat) (hr : RdB w a (supB s0)) : Calls Try.prog 25 #[.slice a 4096 c] w fun e w' => e = .returned (.tuple #[.agg #[.int .i64 64, .int .i64 1, .int .i64 1, .int .i64 0], .int .i64 0]) ∧ Below w.heap.size w w' := by
  have := GetSuper_any w a c 4096 (supB s0) (supB_length s0).symm (by rw [supB_length]; decide) hr
  rw [(got_supB s0 (by decide)).1, (got_supB s0 (by decide)).2] at this
  exact this
theorem ok_n0 : okInd n0 = true := by decide
theorem len_n0 : (indB n0).length = 64 := indB_length (okInd_len ok_n0)
theorem in_n0 : n0.in_ := by
  refine ⟨by decide, by decide, by decide, by decide, by decide, ?_⟩
  intro k hk
  obtain rfl : k = 0 := by simp [n0] at hk; omega
  simp [xat, n0, Ext.ok]
theorem PutInode_n0 (w : World) (a : Option Addr) (c : Nat) (hr : RdX w a [⟨0, 30, 1⟩]) : Calls Try.prog 14 #[.agg #[.int .u8 1, .int .i64 1, .int .i64 5, .slice a 1 c, .int .i64 0]] w fun e w' => ∃ A c', e = .returned (.tuple #[.slice A 64 c', .int .i64 0]) ∧ OwnB w.heap.size w' A c' (indB n0) ∧ Below w.heap.size w w' := by
  have := PutInode_any w n0 a c in_n0 hr
  rw [show putInd n0 = indB n0 from if_pos ok_n0, show errInd n0 = 0 from if_pos ok_n0, len_n0] at this
  exact this
theorem n0_front : (indB n0).take 14 = [1, 1, 0, 1, 0, 0, 0, 5, 0, 0, 0, 30, 0, 1] := by decide +kernel
theorem four {w : World} {g : Nat} {t : TypeId} {x0 x1 x2 x3 : Value} (h : w.heap[g]? = some (.cells #[x0, x1, x2, x3] t (0, 0))) :
    w.cell? ⟨g, 0, none⟩ = some x0 ∧ w.cell? ⟨g, 1, none⟩ = some x1 ∧ w.cell? ⟨g, 2, none⟩ = some x2 ∧ w.cell? ⟨g, 3, none⟩ = some x3 := by
  refine ⟨?_, ?_, ?_, ?_⟩ <;> (rw [cell_of_row _ _ _ _ _ _ h]; rfl)
theorem four_alloc {w : World} {g : Nat} {t : TypeId} {x0 x1 x2 x3 : Value} (h : w.heap[g]? = some (.cells #[x0, x1, x2, x3] t (0, 0))) :
    (∀ o, (w.alloc o).cell? ⟨g, 0, none⟩ = some x0) ∧ (∀ o, (w.alloc o).cell? ⟨g, 1, none⟩ = some x1) ∧ (∀ o, (w.alloc o).cell? ⟨g, 2, none⟩ = some x2) ∧ (∀ o, (w.alloc o).cell? ⟨g, 3, none⟩ = some x3) := by
  refine ⟨?_, ?_, ?_, ?_⟩ <;> (intro o; rw [cell_of_row _ _ _ _ _ _ ((heap_alloc_old w o (heap_lt h)).trans h)]; rfl)
theorem RdB.take {w : World} {a : Option Addr} {l : List UInt8} (h : RdB w a l) (n : Nat) : RdB w a (l.take n) := by
  have := RdV.take h n
  unfold RdB
  simpa [B8s, List.map_take] using this
set_option maxRecDepth 100000 in
theorem awake03_any (w : World) : Calls Try.prog 9 #[] w fun e w' => e = .returned (.bool true) ∧ Below w.heap.size w w' := by
  go_enter Try.func9, Try.ntmps9
  go_wp2_with fail
  refine (PutSuper_s0 _).mono ?_
  rintro e w1 ⟨A1, c1, rfl, ga, b1⟩
  have bw1 := (Below.refl w.heap.size w).trans (b1.mono (Below.refl w.heap.size w).size)
  clear b1
  have ra := ga.rd
  go_wp2_with fail
  refine (GetSuper_s0 _ _ _ ra).mono ?_
  rintro e w2 ⟨rfl, b2⟩
  have bw2 := bw1.trans (b2.mono bw1.size)
  replace ra := ra.below b2
  clear b2
  go_wp2_with fail
  refine (PutInode_n0 _ _ _ (RdX.lit _ _ _ [⟨0, 30, 1⟩] (by simp [extCells, Ext.cells]) (by simp))).mono ?_
  rintro e w3 ⟨A3, c3, rfl, gn, b3⟩
  have rs := hid ((b3.block w2.heap.size (by simp; omega)).trans ((heap_alloc_old _ _ (by simp)).trans (heap_alloc_new w2 _)))
  have bw3 := ((bw2.alloc bw2.size _).alloc (by have := bw2.size; simp; omega) _).trans (b3.mono (by have := bw2.size; simp; omega))
  obtain ⟨y0, y1, y2, y3⟩ := four rs.out
  have h14 : 14 ≤ c3 := by have := gn.cap.1; rw [len_n0] at this; omega
  have rn := gn.rd.take 14
  rw [n0_front] at rn
  clear b3
  go_wp2_with fail
  refine (SameBytes_self _ _ _ _ _ _ _ [1, 1, 0, 1, 0, 0, 0, 5, 0, 0, 0, 30, 0, 1] rfl rfl (rn.below ((Below.refl _ _).alloc (Nat.le_refl _) _)) (RdB.lit _ _ _ _ (by simp [B8s, B8]) rfl)).mono ?_
  rintro e w' ⟨rfl, rfl⟩
  go_wp2
  go_ret
  exact ⟨rfl, bw3.alloc bw3.size _⟩
end Go.Proofs.Ytjblpejekcbokaa
