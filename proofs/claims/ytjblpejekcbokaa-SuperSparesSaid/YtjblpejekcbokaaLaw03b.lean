/- The walk of SuperTells. -/
import Derived.Test.YtjblpejekcbokaaLaw03
import Derived.Test.YtjblpejekcbokaaLow3
import Derived.Test.YtjblpejekcbokaaInode3
namespace Go.Proofs.Ytjblpejekcbokaa
open Go.RowKit
set_option maxHeartbeats 3200000
set_option linter.unusedVariables false
set_option linter.unusedSimpArgs false

theorem SameInode_self (w : World) (n : Ind) (a b : Option Addr) (c d : Nat) (hm : n.dir.length ≤ 7000000000000) (hr1 : RdX w a n.dir) (hr2 : RdX w b n.dir) :
    Calls Try.prog 21 #[n.val a c, n.val b d] w fun e w' => e = .returned (.bool true) ∧ Below w.heap.size w w' := by
  have := SameInode_any w n n a b c d hm hr1 hr2
  rw [decide_eq_true rfl] at this
  exact this
theorem SameExtents_self (w : World) (a b : Option Addr) (c d N M : Nat) (l : List Ext) (hN : N = l.length) (hM : M = l.length) (hl : l.length ≤ 7000000000000) (hr1 : RdX w a l) (hr2 : RdX w b l) :
    Calls Try.prog 22 #[.slice a N c, .slice b M d] w fun e w' => e = .returned (.bool true) ∧ Below w.heap.size w w' := by
  have := SameExtents_any w a b c d N M l l hN hM hl hr1 hr2
  rw [decide_eq_true rfl] at this
  exact this
set_option maxRecDepth 100000 in
theorem SuperTells_any (w : World) (s : Sup) (n : Ind) (l : List Ext) (a : Option Addr) (c : Nat) (x : Option Addr) (d : Nat) (hi : n.in_) (hra : RdX w a n.dir) (hrx : RdX w x l) (hl : l.length ≤ 7000000000000) (ho : okX l) :
    Calls Try.prog 3 #[s.val, n.val a c, .slice x l.length d] w fun e w' => e = .returned (.bool true) ∧ Below w.heap.size w w' := by
  by_cases h600 : 600 < l.length ∨ 600 < n.dir.length
  · obtain ⟨b, e, q, t⟩ := s
    obtain ⟨k, ln, sz, nd, dir⟩ := n
    simp only [Sup.val, Ind.val, indCells] at *
    have AW := fun w => awake03_any w
    have hn1 : dir.length ≤ 7000000000000 := hi.2.2.2.2.1
    clear hi hra hrx ho
    by_cases h1 : 600 < l.length
    · go_enter Try.func3, Try.ntmps3
      go_wp2_with fail
      refine (AW _).mono ?_
      rintro e w1 ⟨rfl, b1⟩
      have bw := (below_two (Below.refl _ w) (Nat.le_refl _) _ _).trans (b1.mono (by simp; omega))
      go_wp2
      go_ret
      exact ⟨rfl, bw⟩
    · have h2 : 600 < dir.length := by omega
      clear h600
      go_enter Try.func3, Try.ntmps3
      go_wp2_with fail
      refine (AW _).mono ?_
      rintro e w1 ⟨rfl, b1⟩
      have bw := (below_two (Below.refl _ w) (Nat.le_refl _) _ _).trans (b1.mono (by simp; omega))
      go_wp2
      go_ret
      exact ⟨rfl, bw⟩
  · have hl6 : l.length ≤ 600 := by omega
    have hn6 : n.dir.length ≤ 600 := by omega
    clear h600
    have P1 := fun w => PutSuper_any w s
    have P2 := fun w => refPutSuper_any w s
    generalize putS s = PS at P1 P2
    generalize errS s = ES at P1 P2
    have I1 := fun w a c h => PutInode_any w n a c hi h
    have I2 := fun w a c h => refPutInode_any w n a c hi h
    have CI := fun w h => CopyInode_any w n a c (by omega) h
    have SI := fun w a b c d h1 h2 => SameInode_self w n a b c d (by omega) h1 h2
    generalize putInd n = PI at I1 I2
    generalize errInd n = EI at I1 I2
    have N1 := fun w a c h => PutNode_any w a c l.length l rfl (by omega) h ho
    have N2 := fun w a c h => refPutNode_any w a c l.length l rfl (by omega) h ho
    have R1 := fun w a c h => Right_any w a c l.length l rfl (by omega) h ho
    have R2 := fun w a c h => refRight_any w a c l.length l rfl (by omega) h ho
    have CX := fun w h => CopyExtents_any w x d l.length l rfl (by omega) h
    have SX := fun w a b c d h1 h2 => SameExtents_self w a b c d l.length l.length l rfl rfl (by omega) h1 h2
    generalize putL l = PL at N1 N2
    generalize errL l = EL at N1 N2
    generalize rightX l = RX at R1 R2
    obtain ⟨b, e, q, t⟩ := s
    obtain ⟨k, ln, sz, nd, dir⟩ := n
    simp only [Sup.val, Ind.val, indCells] at *
    clear hi ho
    obtain ⟨v, hv⟩ : ∃ v, v = (w.alloc (.cells #[.int .i64 b, .int .i64 e, .int .i64 q, .int .i64 t] 23)).alloc (.cells #[.int .u8 (k : Int), .int .i64 ln, .int .i64 sz, .slice a dir.length c, .int .i64 nd] 27) := ⟨_, rfl⟩
    have bv : Below w.heap.size w v := by rw [hv]; exact below_two (Below.refl _ w) (Nat.le_refl _) _ _
    have rs := hid (show v.heap[w.heap.size]? = some (.cells #[.int .i64 b, .int .i64 e, .int .i64 q, .int .i64 t] 23 (0, 0)) by rw [hv]; exact (heap_alloc_old _ _ (by simp)).trans (heap_alloc_new w _))
    have rn := hid (show v.heap[w.heap.size + 1]? = some (.cells #[.int .u8 (k : Int), .int .i64 ln, .int .i64 sz, .slice a dir.length c, .int .i64 nd] 27 (0, 0)) by rw [hv]; have := heap_alloc_new (w.alloc (.cells #[.int .i64 b, .int .i64 e, .int .i64 q, .int .i64 t] 23)) (.cells #[.int .u8 (k : Int), .int .i64 ln, .int .i64 sz, .slice a dir.length c, .int .i64 nd] 27); rw [World.size_alloc] at this; exact this)
    have ha := hra.below bv
    have hx := hrx.below bv
    have go : Calls Try.prog 3 #[.agg #[.int .i64 b, .int .i64 e, .int .i64 q, .int .i64 t], .agg #[.int .u8 (k : Int), .int .i64 ln, .int .i64 sz, .slice a dir.length c, .int .i64 nd], .slice x l.length d] w fun e w' => e = .returned (.bool true) ∧ Below w.heap.size w w' := by
      go_enter Try.func3, Try.ntmps3
      go_wp2_with fail
      rw [← hv]
      clear hv hra hrx
      obtain ⟨f0, f1, f2, f3, f4⟩ := five rn.out
      go_wp2_with fail
      refine (CI _ ha).mono ?_
      rintro e w1 ⟨A1, c1, rfl, gy, b1⟩
      have bw1 := bv.trans (b1.mono bv.size)
      replace ha := ha.below b1
      replace hx := hx.below b1
      replace rs := hid (kept1 b1 rs.out)
      replace rn := hid (kept1 b1 rn.out)
      clear b1
      have hy := gy.rd
      clear f0 f1 f2 f3 f4
      go_wp2_with fail
      refine (CX _ hx).mono ?_
      rintro e w2 ⟨A2, c2, rfl, gz, b2⟩
      have bw2 := bw1.trans (b2.mono bw1.size)
      replace ha := ha.below b2
      replace hx := hx.below b2
      replace hy := hy.below b2
      replace rs := hid (kept1 b2 rs.out)
      replace rn := hid (kept1 b2 rn.out)
      clear b2
      have hz := gz.rd
      obtain ⟨f0, f1, f2, f3⟩ := four_alloc rs.out
      go_wp2_with fail
      refine (P1 _).mono ?_
      rintro e w3 ⟨A3, c3, rfl, g3, b3⟩
      have bw3 := (bw2.alloc bw2.size _).trans (b3.mono (by have := bw2.size; simp; omega))
      replace ha := (ha.below ((Below.refl _ _).alloc (Nat.le_refl _) _)).below b3
      replace hx := (hx.below ((Below.refl _ _).alloc (Nat.le_refl _) _)).below b3
      replace hy := (hy.below ((Below.refl _ _).alloc (Nat.le_refl _) _)).below b3
      replace hz := (hz.below ((Below.refl _ _).alloc (Nat.le_refl _) _)).below b3
      replace rs := hid (kept2 b3 rs.out)
      replace rn := hid (kept2 b3 rn.out)
      have ry := hid (keptN b3)
      clear b3
      have h3 := g3.rd
      clear f0 f1 f2 f3
      obtain ⟨f0, f1, f2, f3⟩ := four rs.out
      go_wp2_with fail
      refine (P2 _).mono ?_
      rintro e w4 ⟨A4, c4, rfl, g4, b4⟩
      have bw4 := bw3.trans (b4.mono bw3.size)
      replace ha := ha.below b4
      replace hx := hx.below b4
      replace hy := hy.below b4
      replace hz := hz.below b4
      replace h3 := h3.below b4
      replace rs := hid (kept1 b4 rs.out)
      replace rn := hid (kept1 b4 rn.out)
      replace ry := hid (kept1 b4 ry.out)
      clear b4
      have h4 := g4.rd
      clear f0 f1 f2 f3
      obtain ⟨f0, f1, f2, f3, f4⟩ := five ry.out
      go_wp2_with fail
      refine (I1 _ _ _ hy).mono ?_
      rintro e w5 ⟨A5, c5, rfl, g5, b5⟩
      have bw5 := bw4.trans (b5.mono bw4.size)
      replace ha := ha.below b5
      replace hx := hx.below b5
      replace hy := hy.below b5
      replace hz := hz.below b5
      replace h3 := h3.below b5
      replace h4 := h4.below b5
      replace rs := hid (kept1 b5 rs.out)
      replace rn := hid (kept1 b5 rn.out)
      replace ry := hid (kept1 b5 ry.out)
      clear b5
      have h5 := g5.rd
      clear f0 f1 f2 f3 f4
      obtain ⟨f0, f1, f2, f3, f4⟩ := five rn.out
      go_wp2_with fail
      refine (I2 _ _ _ ha).mono ?_
      rintro e w6 ⟨A6, c6, rfl, g6, b6⟩
      have bw6 := bw5.trans (b6.mono bw5.size)
      replace ha := ha.below b6
      replace hx := hx.below b6
      replace hy := hy.below b6
      replace hz := hz.below b6
      replace h3 := h3.below b6
      replace h4 := h4.below b6
      replace h5 := h5.below b6
      replace rs := hid (kept1 b6 rs.out)
      replace rn := hid (kept1 b6 rn.out)
      replace ry := hid (kept1 b6 ry.out)
      clear b6
      have h6 := g6.rd
      clear f0 f1 f2 f3 f4
      go_wp2_with fail
      refine (N1 _ _ _ hz).mono ?_
      rintro e w7 ⟨A7, c7, rfl, g7, b7⟩
      have bw7 := bw6.trans (b7.mono bw6.size)
      replace ha := ha.below b7
      replace hx := hx.below b7
      replace hy := hy.below b7
      replace hz := hz.below b7
      replace h3 := h3.below b7
      replace h4 := h4.below b7
      replace h5 := h5.below b7
      replace h6 := h6.below b7
      replace rs := hid (kept1 b7 rs.out)
      replace rn := hid (kept1 b7 rn.out)
      replace ry := hid (kept1 b7 ry.out)
      clear b7
      have h7 := g7.rd
      go_wp2_with fail
      refine (N2 _ _ _ hx).mono ?_
      rintro e w8 ⟨A8, c8, rfl, g8, b8⟩
      have bw8 := bw7.trans (b8.mono bw7.size)
      replace ha := ha.below b8
      replace hx := hx.below b8
      replace hy := hy.below b8
      replace hz := hz.below b8
      replace h3 := h3.below b8
      replace h4 := h4.below b8
      replace h5 := h5.below b8
      replace h6 := h6.below b8
      replace h7 := h7.below b8
      replace rs := hid (kept1 b8 rs.out)
      replace rn := hid (kept1 b8 rn.out)
      replace ry := hid (kept1 b8 ry.out)
      clear b8
      have h8 := g8.rd
      go_wp2_with fail
      refine (SameBytes_self _ _ _ _ _ _ _ PS rfl rfl h3 h4).mono ?_
      rintro e w' ⟨rfl, rfl⟩
      go_wp2_with fail
      refine (SameBytes_self _ _ _ _ _ _ _ PI rfl rfl h5 h6).mono ?_
      rintro e w' ⟨rfl, rfl⟩
      go_wp2_with fail
      refine (SameBytes_self _ _ _ _ _ _ _ PL rfl rfl h7 h8).mono ?_
      rintro e w' ⟨rfl, rfl⟩
      go_wp2_with fail
      refine (R1 _ _ _ hz).mono ?_
      rintro e w9 ⟨rfl, b9⟩
      have bw9 := bw8.trans (b9.mono bw8.size)
      replace ha := ha.below b9
      replace hx := hx.below b9
      replace hy := hy.below b9
      replace hz := hz.below b9
      replace rs := hid (kept1 b9 rs.out)
      replace rn := hid (kept1 b9 rn.out)
      replace ry := hid (kept1 b9 ry.out)
      clear b9
      go_wp2_with fail
      refine (R2 _ _ _ hx).mono ?_
      rintro e w10 ⟨rfl, b10⟩
      have bw10 := bw9.trans (b10.mono bw9.size)
      replace ha := ha.below b10
      replace hx := hx.below b10
      replace hy := hy.below b10
      replace hz := hz.below b10
      replace rs := hid (kept1 b10 rs.out)
      replace rn := hid (kept1 b10 rn.out)
      replace ry := hid (kept1 b10 ry.out)
      clear b10
      obtain ⟨f0, f1, f2, f3, f4⟩ := five ry.out
      obtain ⟨d0, d1, d2, d3, d4⟩ := five rn.out
      go_wp2_with fail
      refine (SI _ _ _ _ _ hy ha).mono ?_
      rintro e w11 ⟨rfl, b11⟩
      have bw11 := bw10.trans (b11.mono bw10.size)
      replace ha := ha.below b11
      replace hx := hx.below b11
      replace hy := hy.below b11
      replace hz := hz.below b11
      replace rs := hid (kept1 b11 rs.out)
      replace rn := hid (kept1 b11 rn.out)
      replace ry := hid (kept1 b11 ry.out)
      clear b11
      clear d0 d1 d2 d3 d4
      clear f0 f1 f2 f3 f4
      go_wp2_with fail
      refine (SX _ _ _ _ _ hz hx).mono ?_
      rintro e w12 ⟨rfl, b12⟩
      have bw12 := bw11.trans (b12.mono bw11.size)
      replace ha := ha.below b12
      replace hx := hx.below b12
      replace hy := hy.below b12
      replace hz := hz.below b12
      replace rs := hid (kept1 b12 rs.out)
      replace rn := hid (kept1 b12 rn.out)
      replace ry := hid (kept1 b12 ry.out)
      clear b12
      go_wp2_with fail
      refine (awake03_any _).mono ?_
      rintro e w13 ⟨rfl, b13⟩
      have bw13 := bw12.trans (b13.mono bw12.size)
      replace ha := ha.below b13
      replace hx := hx.below b13
      replace hy := hy.below b13
      replace hz := hz.below b13
      replace rs := hid (kept1 b13 rs.out)
      replace rn := hid (kept1 b13 rn.out)
      replace ry := hid (kept1 b13 ry.out)
      clear b13
      go_wp2
      go_ret
      exact ⟨rfl, bw13⟩
    exact go
end Go.Proofs.Ytjblpejekcbokaa
